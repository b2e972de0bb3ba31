/- Texts one behind the other: Chapter 5: the walk of the laws' made selectors. -/
import Derived.Test.YtbkemhheombfcaaDoorSelBackP16
import Derived.Test.YtbkemhheombfcaaDoorSelBackP17
import Derived.Test.YtbkemhheombfcaaDoorSelBackP7
namespace Go.Dm
open Go Go.RowKit

def keys4 : List ByteArray := [⟨#[97]⟩, ⟨#[100, 105, 115, 107]⟩, ⟨#[122, 111, 110, 101]⟩, ⟨#[206, 177, 206, 178]⟩]
def allB : List ByteArray := [⟨#[97]⟩, ⟨#[98]⟩, ⟨#[99]⟩, ⟨#[208, 180, 208, 190, 208, 188]⟩]
/-- The values of a byte. -/
def valsTo (z : Nat) : Nat → List ByteArray
  | 0 => []
  | k + 1 => valsTo z k ++ (if z / 2 ^ (4 + k) % 2 = 1 then [strAt allB k] else [])
def termZ (z : Nat) : TermS := (strAt keys4 (z % 4), z / 4 % 2 == 1, valsTo z 4)
/-- A selector by bytes. -/
def madeS (zs : List Int) (k : Nat) : List TermS := (zs.take k).map fun z => termZ z.toNat
theorem madeS_step {zs : List Int} {k : Nat} (h : k < zs.length) : madeS zs (k + 1) = madeS zs k ++ [termZ (numAt zs k).toNat] := by
  unfold madeS
  rw [List.take_succ_eq_append_getElem h, List.map_append]
  simp [numAt, h]
theorem termZ_right : ∀ z, z < 256 → rightT (termZ z) = true := by decide +kernel
theorem madeS_right {zs : List Int} (hz : ∀ z ∈ zs, 0 ≤ z ∧ z ≤ 255) {k : Nat} (hk : k ≤ 4) : rightS (madeS zs k) = true := by
  refine rightS_iff.2 ⟨?_, fun t ht => ?_⟩
  · unfold madeS
    rw [List.length_map, List.length_take]; omega
  · obtain ⟨z, hm, rfl⟩ := List.mem_map.1 ht
    have := hz z (List.mem_of_mem_take hm)
    exact termZ_right _ (by omega)
theorem valsTo_len (z : Nat) : ∀ k, (valsTo z k).length ≤ k
  | 0 => by simp [valsTo]
  | k + 1 => by
    have := valsTo_len z k
    unfold valsTo
    split <;> simp <;> omega

/-- A cell that is there. -/
def Has (b o : Nat) (u : Value) (w : World) : Prop := b < w.heap.size ∧ w.cell? ⟨b, o, none⟩ = some u
theorem Has.ext {b o : Nat} {u : Value} {w w' : World} (h : Has b o u w) (hx : Ext w w') : Has b o u w' := ⟨Nat.lt_of_lt_of_le h.1 hx.size, by rw [hx.cell (by exact h.1)]; exact h.2⟩
theorem Has.grown {b o : Nat} {u : Value} {w w' : World} {q : Option Nat} (h : Has b o u w) (hg : w.grownBy w' q) (hb : q ≠ some b) : Has b o u w' := ⟨Nat.lt_of_lt_of_le h.1 hg.size, hg.cell h.2 (fun e => hb e.symm)⟩
/-- Later blocks than the row's, and than its values', were written. -/
theorem TRow.later {e B C : Nat} {w w' : World} {v : Value} {n : Nat} {R : List RowS} {q : Option Nat} (h : TRow e B w v n R) (hl : ∀ b, v.ownBlock = some b → b < C) (hv : ∀ r ∈ R, r.2.2.2 = [] ∨ ∀ b, r.2.2.1.ownBlock = some b → b < C)
    (hg : w.grownBy w' q) (hq : ∀ c, q = some c → C ≤ c) : TRow e B w' v n R := by
  refine ⟨?_, fun r hr => ⟨Sl.grown (h.vals r hr).1 hg ?_, (h.vals r hr).2⟩⟩
  · obtain ⟨hlen, h⟩ := h.row
    refine ⟨hlen, ?_⟩
    rcases h with h | ⟨g, cap, cur, hv, hb, hgg, r⟩
    · exact Or.inl h
    · refine Or.inr ⟨g, cap, cur, hv, hb, ?_, r⟩
      rw [hg.block g (Array.getElem?_eq_some_iff.1 hgg).1 (fun e => by have h1 := hq g e.symm; have h2 := hl g (by rw [hv]; rfl); omega)]
      exact hgg
  · rcases hv r hr with h0 | hb
    · left; rw [h0]; rfl
    · right
      intro b hb1 hb2
      have h1 := hb b hb1
      have h2 := hq b hb2
      omega
theorem TRow.lts {e B : Nat} {w : World} {v : Value} {n : Nat} {R : List RowS} (h : TRow e B w v n R) : (∀ b, v.ownBlock = some b → b < w.heap.size) ∧ ∀ r ∈ R, r.2.2.2 = [] ∨ ∀ b, r.2.2.1.ownBlock = some b → b < w.heap.size := by
  refine ⟨fun b hb => (h.lt hb).2, fun r hr => ?_⟩
  by_cases h0 : r.2.2.2 = []
  · exact Or.inl h0
  · exact Or.inr fun b hb => Sl.own_lt (h.vals r hr).1 (fun e => h0 (List.length_eq_zero_iff.1 e)) hb
end Go.Dm
namespace Go.Proofs.YtbkemhheombfcaaDoor
open Go.RowKit Go.Dm

set_option maxHeartbeats 2000000 in
set_option maxRecDepth 100000 in
theorem smade_w (zs : List Int) (v : Value) (w : World) (hz : ∀ z ∈ zs, 0 ≤ z ∧ z ≤ 255) (hx : Nums w .u8 v zs) :
    Calls Tryd.prog 50 #[v] w fun e w' => ∃ r R, e = .returned r ∧ Terms w' r R ∧ R.map rowT = madeS zs 4 ∧ Ext w w' := by
  obtain ⟨q, cap, rfl, hcap, hcm⟩ := hx.shape
  have hzl : zs.length ≤ maxLen := by omega
  unfold maxLen at hcm hzl
  go_enter Tryd.func50, Tryd.ntmps50
  go_wp2
  go_loopw [3, 4] (fun v i' wr => ∃ (k : Nat) (R : List RowS), k ≤ zs.length ∧ k ≤ 4 ∧ i' = .int .i64 k ∧ Ext w wr ∧ TRow 57 w.heap.size wr v k R ∧ Hid (R.map rowT = madeS zs k)) (fun _ i' _ => 4 - (intOf i').toNat)
  case atStart => exact ⟨0, [], by omega, by omega, rfl, Ext.refl _, TRow.nil _ _ _, rfl⟩
  case round =>
    obtain ⟨k, R, hk, h4, rfl, hb, ho, hR⟩ := hrel
    by_cases hlt : k < zs.length
    · by_cases hl4 : k < 4
      · have hxr := hx.ext hb
        obtain ⟨b, off, rfl, hbl, c0⟩ := hxr.at hlt
        have hzk : 0 ≤ numAt zs k ∧ numAt zs k ≤ 255 := hz _ (by simp [numAt, hlt])
        obtain ⟨z, hzn⟩ : ∃ z : Nat, numAt zs k = (z : Int) := ⟨(numAt zs k).toNat, by omega⟩
        have hst := madeS_step hlt
        rw [hzn] at c0 hzk hst
        rw [Int.toNat_natCast] at hst
        have hz255 : z ≤ 255 := by omega
        obtain ⟨j, hj, hjq⟩ : ∃ j : Nat, j < 4 ∧ z % 4 = j := ⟨z % 4, by omega, rfl⟩
        have hjq' : (z : Int) % 4 = (j : Int) := by omega
        have hno : ((z : Int) / 4 % 2 == 1) = (z / 4 % 2 == 1) := by rw [Bool.eq_iff_iff, beq_iff_eq, beq_iff_eq]; omega
        replace hst := Lib.hid hst
        have hbit : Hid (∀ m : Nat, (((z : Int) / 2 ^ (4 + m)).tmod 2 == 1) = (z / 2 ^ (4 + m) % 2 == 1)) := fun m => by
          have e : (z : Int) / 2 ^ (4 + m) = ((z / 2 ^ (4 + m) : Nat) : Int) := by rw [Int.natCast_ediv, Int.natCast_pow]; rfl
          rw [e, Int.tmod_eq_emod_of_nonneg (Int.natCast_nonneg _), Bool.eq_iff_iff, beq_iff_eq, beq_iff_eq]; omega
        have hbl0 : b < wr.heap.size := hbl
        obtain ⟨KB, hKB⟩ : ∃ KB, KB = strAt keys4 j := ⟨_, rfl⟩
        obtain ⟨no, hnoe⟩ : ∃ no, no = (z / 4 % 2 == 1) := ⟨_, rfl⟩
        rw [← hnoe] at hno
        have hterm : Hid (termZ z = (KB, no, valsTo z 4)) := by show _ = _; rw [hKB, hnoe, ← hjq]; rfl
        replace hKB := Lib.hid hKB
        replace hnoe := Lib.hid hnoe
        replace hjq := Lib.hid hjq
        replace hzn := Lib.hid hzn
        go_wp2_with fail
        try simp only [Act.put, List.setIfInBounds_toArray, List.set_cons_succ, List.set_cons_zero]
        refine Dm.wp_region_ext 18 (Dm.bits 18 0) (Ext.refl wr) (by kernel_rfl) (by kernel_rfl) (by kernel_rfl) ?_
        refine Dm.wpE_take (i := 1) (listed' := (Dm.bits 18 2)) (by kernel_rfl) (by kernel_rfl) rfl (fun _ _ _ _ h => h) ?_; apply Exists.intro; refine And.intro (fun x => ?_) ?_
        · go_big_quiet_step (fail); exact wpQuiet_nil rfl
        refine Dm.wpE_take (i := 2) (listed' := (Dm.bits 18 6)) (by kernel_rfl) (by kernel_rfl) rfl (fun _ _ _ _ h => h) ?_; apply Exists.intro; refine And.intro (fun x => ?_) ?_
        · go_big_quiet_step (fail); exact wpQuiet_nil rfl
        refine Dm.wpE_take (i := 3) (listed' := (Dm.bits 18 14)) (by kernel_rfl) (by kernel_rfl) rfl (fun _ _ _ _ h => h) ?_; apply Exists.intro; refine And.intro (fun x => ?_) ?_
        · go_big_quiet_step (fail); exact wpQuiet_nil rfl
        refine Dm.wpE_take (i := 4) (listed' := (Dm.bits 18 30)) (by kernel_rfl) (by kernel_rfl) rfl (fun _ _ _ _ h => h) ?_; apply Exists.intro; refine And.intro (fun x => ?_) ?_
        · go_big_quiet_step (fail); exact wpQuiet_nil rfl
        refine Dm.wpE_take (i := 5) (listed' := (Dm.bits 18 62)) (by kernel_rfl) (by kernel_rfl) rfl (fun _ _ _ _ h => h) ?_; apply Exists.intro; refine And.intro (fun x => ?_) ?_
        · go_big_quiet_step (fail); exact wpQuiet_nil rfl
        refine Dm.wpE_take (i := 8) (listed' := (Dm.bits 18 318)) (by kernel_rfl) (by kernel_rfl) rfl (fun _ _ _ _ h => h) ?_; apply Exists.intro; refine And.intro (fun x => ?_) ?_
        · go_big_quiet_step (fail); exact wpQuiet_nil rfl
        refine Dm.wpE_take (i := 9) (listed' := (Dm.bits 18 830)) (by kernel_rfl) (by kernel_rfl) rfl (fun _ _ _ _ h => h) ?_; apply Exists.intro; refine And.intro (fun x => ?_) ?_
        · go_big_quiet_step (fail); exact wpQuiet_nil rfl
        refine Dm.wpE_take (i := 10) (listed' := (Dm.bits 18 1854)) (by kernel_rfl) (by kernel_rfl) rfl (fun _ _ _ _ h => h) ?_; apply Exists.intro; refine And.intro (fun x => ?_) ?_
        · go_big_quiet_step (fail); exact wpQuiet_nil rfl
        refine Dm.wpE_take (i := 11) (listed' := (Dm.bits 18 3902)) (by kernel_rfl) (by kernel_rfl) rfl (fun _ _ _ _ h => h) ?_; apply Exists.intro; refine And.intro (fun x => ?_) ?_
        · go_big_quiet_step (fail); exact wpQuiet_nil rfl
        refine Dm.wpE_take (i := 12) (listed' := (Dm.bits 18 7998)) (by kernel_rfl) (by kernel_rfl) rfl (fun _ _ _ _ h => h) ?_; apply Exists.intro; refine And.intro (fun x => ?_) ?_
        · go_big_quiet_step (fail); exact wpQuiet_nil rfl
        refine Dm.wpE_take (i := 13) (listed' := (Dm.bits 18 16190)) (by kernel_rfl) (by kernel_rfl) rfl (fun _ _ _ _ h => h) ?_; apply Exists.intro; refine And.intro (fun x => ?_) ?_
        · go_big_quiet_step (fail); exact wpQuiet_nil rfl
        refine Dm.wpE_take (i := 14) (listed' := (Dm.bits 18 32574)) (by kernel_rfl) (by kernel_rfl) rfl (fun _ _ _ _ h => h) ?_; apply Exists.intro; refine And.intro (fun x => ?_) ?_
        · go_big_quiet_step (fail); exact wpQuiet_nil rfl
        refine Dm.wpE_two (i := 0) (j := 16) (li := (Dm.bits 18 32575)) (lj := (Dm.bits 18 98110)) (by kernel_rfl) (by kernel_rfl) (by kernel_rfl) rfl rfl (Ext.refl wr) (fun w1a hx1a => ?_) (fun w1a hx1a => ?_)
        ·
          have hX1a := Ext.trans (Ext.refl wr) hx1a
          have hk4 : Strs (w1a.alloc (.cells #[.string ⟨#[97]⟩, .string ⟨#[100, 105, 115, 107]⟩, .string ⟨#[122, 111, 110, 101]⟩, .string ⟨#[206, 177, 206, 178]⟩] 9)) (.slice (some ⟨w1a.heap.size, 0, none⟩) 4 4) keys4 := Sl.lit w1a 9 1 4 #[.string ⟨#[97]⟩, .string ⟨#[100, 105, 115, 107]⟩, .string ⟨#[122, 111, 110, 101]⟩, .string ⟨#[206, 177, 206, 178]⟩] rfl (by simp [maxLen])
          have hs1 := (Ext.refl w1a).alloc (.cells #[.string ⟨#[97]⟩, .string ⟨#[100, 105, 115, 107]⟩, .string ⟨#[122, 111, 110, 101]⟩, .string ⟨#[206, 177, 206, 178]⟩] 9)
          go_wp2_with fail
          generalize w1a.alloc (.cells #[.string ⟨#[97]⟩, .string ⟨#[100, 105, 115, 107]⟩, .string ⟨#[122, 111, 110, 101]⟩, .string ⟨#[206, 177, 206, 178]⟩] 9) = w1b at *
          have hX1b := Ext.trans hX1a hs1
          try simp only [Exit.then, Act.put, List.setIfInBounds_toArray, List.set_cons_succ, List.set_cons_zero]
          refine Dm.wpE_take (i := 6) (listed' := (Dm.bits 18 32639)) (by kernel_rfl) (by kernel_rfl) rfl (fun _ _ _ _ h => h) ?_; apply Exists.intro; refine And.intro (fun x => ?_) ?_
          · go_big_quiet_step (fail); exact wpQuiet_nil rfl
          refine Dm.wpE_two (i := 7) (j := 16) (li := (Dm.bits 18 32767)) (lj := (Dm.bits 18 98175)) (by kernel_rfl) (by kernel_rfl) (by kernel_rfl) rfl rfl hX1b (fun w2a hx2a => ?_) (fun w2a hx2a => ?_)
          ·
            have hX2a := Ext.trans hX1b hx2a
            replace hk4 := hk4.ext hx2a
            obtain ⟨hkb, hkc⟩ := hk4.cells (k := j) (by simp [keys4]; omega)
            rw [← hKB.out, Nat.zero_add] at hkc
            go_wp2_with fail
            have hX2b := hX2a
            try simp only [Exit.then, Act.put, List.setIfInBounds_toArray, List.set_cons_succ, List.set_cons_zero]
            refine Dm.wpE_take (i := 15) (listed' := (Dm.bits 18 65535)) (by kernel_rfl) (by kernel_rfl) rfl (fun _ _ _ _ h => h) ?_; apply Exists.intro; refine And.intro (fun x => ?_) ?_
            · go_big_quiet_step (fail); exact wpQuiet_nil rfl
            refine Dm.wpE_one (i := 16) (listed' := (Dm.bits 18 131071)) (by kernel_rfl) (by kernel_rfl) rfl hX2b (fun w3a hx3a => ?_)
            have hX3a := Ext.trans hX2b hx3a
            replace hk4 := hk4.ext hx3a
            have hC := Cell3.new w3a (.string ⟨#[]⟩) (.bool false) (.slice none 0 0) 57
            have hs3 := (Ext.refl w3a).alloc (.cells #[.string ⟨#[]⟩, .bool false, .slice none 0 0] 57)
            obtain ⟨cb, hcb⟩ : ∃ cb, cb = w3a.heap.size := ⟨_, rfl⟩
            have hcl : wr.heap.size ≤ cb := by rw [hcb]; exact hX3a.size
            go_wp2_with fail
            generalize w3a.alloc (.cells #[.string ⟨#[]⟩, .bool false, .slice none 0 0] 57) = w3b at *
            rw [← hcb] at hC
            try rw [← hcb]
            clear hcb
            have hX3b := Ext.trans hX3a hs3
            replace hk4 := hk4.ext hs3
            try simp only [Exit.then, Act.put, List.setIfInBounds_toArray, List.set_cons_succ, List.set_cons_zero]
            refine Dm.wpE_one (i := 17) (listed' := (Dm.bits 18 262143)) (by kernel_rfl) (by kernel_rfl) rfl hX3b (fun w4a hx4a => ?_)
            have hX4a := Ext.trans hX3b hx4a
            replace hk4 := hk4.ext hx4a
            replace hC := hC.ext hx4a
            have hC2 := hC.put (.string KB) (.bool no) (.slice none 0 0)
            have hX2 : Ext wr (((w4a.setCell ⟨cb, 0, none⟩ (.string KB)).setCell ⟨cb, 1, none⟩ (.bool no)).setCell ⟨cb, 2, none⟩ (.slice none 0 0)) := below_put3 hX4a hcl _ _ _
            obtain ⟨_, y1, y2, y3, y4, y5, y6⟩ := id hC
            go_wp2_with fail
            generalize ((w4a.setCell ⟨cb, 0, none⟩ (.string KB)).setCell ⟨cb, 1, none⟩ (.bool no)).setCell ⟨cb, 2, none⟩ (.slice none 0 0) = w4b at *
            have hX4b := hX2
            clear y1 y2 y3 y4 y5 y6 hC hk4 hX2
            try simp only [Exit.then, Act.put, List.setIfInBounds_toArray, List.set_cons_succ, List.set_cons_zero]
            refine Dm.wpE_done (by kernel_rfl) hX4b (fun w5a hx5a => ?_)
            have hX5a := Ext.trans hX4b hx5a
            replace hC2 := hC2.ext hx5a
            have hal4 : Strs (w5a.alloc (.cells #[.string ⟨#[97]⟩, .string ⟨#[98]⟩, .string ⟨#[99]⟩, .string ⟨#[208, 180, 208, 190, 208, 188]⟩] 9)) (.slice (some ⟨w5a.heap.size, 0, none⟩) 4 4) allB := Sl.lit w5a 9 1 4 #[.string ⟨#[97]⟩, .string ⟨#[98]⟩, .string ⟨#[99]⟩, .string ⟨#[208, 180, 208, 190, 208, 188]⟩] rfl (by simp [maxLen])
            have hE4 : Ext wr (w5a.alloc (.cells #[.string ⟨#[97]⟩, .string ⟨#[98]⟩, .string ⟨#[99]⟩, .string ⟨#[208, 180, 208, 190, 208, 188]⟩] 9)) := Ext.trans hX5a ((Ext.refl w5a).alloc _)
            have hC3 := hC2.ext ((Ext.refl w5a).alloc (.cells #[.string ⟨#[97]⟩, .string ⟨#[98]⟩, .string ⟨#[99]⟩, .string ⟨#[208, 180, 208, 190, 208, 188]⟩] 9))
            have ho4 := ho.ext hE4
            have hS4 : w5a.heap.size < (w5a.alloc (.cells #[.string ⟨#[97]⟩, .string ⟨#[98]⟩, .string ⟨#[99]⟩, .string ⟨#[208, 180, 208, 190, 208, 188]⟩] 9)).heap.size := by simp
            obtain ⟨lt1, lt2⟩ := ho.lts
            have hcb : cb < w5a.heap.size := hC2.lt
            go_wp2
            generalize w5a.alloc (.cells #[.string ⟨#[97]⟩, .string ⟨#[98]⟩, .string ⟨#[99]⟩, .string ⟨#[208, 180, 208, 190, 208, 188]⟩] 9) = W1 at *
            have hEw := hb.trans hE4
            clear hE4 hC2
            have hk4d : decide ((k : Int) < 4) = true := decide_eq_true (by omega)
            simp only [hk4d, hjq']
            go_loopw [7] (fun i' wq => ∃ (m : Nat) (v : Value), m ≤ 4 ∧ i' = .int .i64 m ∧ Cell3 cb (.string KB) (.bool no) v wq ∧ wq.ownsRow W1.heap.size 9 1 v (valsTo z m).length ((valsTo z m).map .string) ∧ Strs wq (.slice (some ⟨w5a.heap.size, 0, none⟩) 4 4) allB ∧ TRow 57 w.heap.size wq u3 k R ∧ Ext w wq ∧ W1.heap.size ≤ wq.heap.size) (fun i' _ => 4 - (intOf i').toNat)
            case atStart => exact ⟨0, .slice none 0 0, by omega, rfl, hC3, World.ownsRow_nil _ _ _ _, hal4, ho4, hEw, Nat.le_refl _⟩
            case round =>
              obtain ⟨m, v, hm, rfl, hCm, hom, halm, hOm, hEm, hSm⟩ := hrel
              by_cases hlm : m < 4
              · obtain ⟨b9, off9, e9, hbl9, cm⟩ := (hx.ext hEm).at hlt
                injection e9 with e9
                injection e9 with e91 e92
                subst e91 e92
                rw [hzn.out] at cm
                have hbm := hbit.out m
                have hml := valsTo_len z m
                cases hbt : (z / 2 ^ (4 + m) % 2 == 1) with
                | false =>
                  rw [hbt] at hbm
                  have hvs : Hid (valsTo z (m + 1) = valsTo z m) := by
                    show valsTo z m ++ _ = _
                    rw [if_neg (by simpa using hbt), List.append_nil]
                  clear hbt
                  go_wp2
                  go_roundw
                  case rel => exact ⟨m + 1, v, by omega, by go_num, hCm, (by rw [hvs.out]; exact hom), halm, hOm, hEm, hSm⟩
                  case measure => simp [intOf]; omega
                | true =>
                  rw [hbt] at hbm
                  have hvs : Hid (valsTo z (m + 1) = valsTo z m ++ [strAt allB m]) := by
                    show valsTo z m ++ _ = _
                    rw [if_pos (by simpa using hbt)]
                  clear hbt
                  obtain ⟨hSb, hSc⟩ := halm.cells (k := m) hlm
                  rw [Nat.zero_add] at hSc
                  generalize strAt allB m = AB at *
                  have HI : Cell3 cb (.string KB) (.bool no) v wr ∧ Has w5a.heap.size m (.string AB) wr := ⟨hCm, hSb, hSc⟩
                  clear hSb hSc
                  go_wp2_with fail
                  try simp only [Act.put, List.setIfInBounds_toArray, List.set_cons_succ, List.set_cons_zero]
                  refine Dm.wp_region_fin (I := (fun w' => Cell3 cb (.string KB) (.bool no) v w' ∧ Has w5a.heap.size m (.string AB) w')) (z := 9) 10 (Dm.bits 10 0) (by kernel_rfl) (by kernel_rfl) (by kernel_rfl) ?_
                  refine Dm.wpF_take (i := 0) (listed' := (Dm.bits 10 1)) (fun _ _ h hx => ⟨h.1.ext hx, h.2.ext hx⟩) HI (by kernel_rfl) (by kernel_rfl) rfl (fun _ _ _ _ h => h) ?_; apply Exists.intro; refine And.intro (fun wq hwq => ?_) ?_
                  · obtain ⟨⟨_, a0, a1, a2, _, _, _⟩, a3, a4⟩ := hwq; go_big_quiet_step (fail); exact wpQuiet_nil rfl
                  refine Dm.wpF_take (i := 1) (listed' := (Dm.bits 10 3)) (fun _ _ h hx => ⟨h.1.ext hx, h.2.ext hx⟩) HI (by kernel_rfl) (by kernel_rfl) rfl (fun _ _ _ _ h => h) ?_; apply Exists.intro; refine And.intro (fun wq hwq => ?_) ?_
                  · obtain ⟨⟨_, a0, a1, a2, _, _, _⟩, a3, a4⟩ := hwq; go_big_quiet_step (fail); exact wpQuiet_nil rfl
                  refine Dm.wpF_take (i := 2) (listed' := (Dm.bits 10 7)) (fun _ _ h hx => ⟨h.1.ext hx, h.2.ext hx⟩) HI (by kernel_rfl) (by kernel_rfl) rfl (fun _ _ _ _ h => h) ?_; apply Exists.intro; refine And.intro (fun wq hwq => ?_) ?_
                  · obtain ⟨⟨_, a0, a1, a2, _, _, _⟩, a3, a4⟩ := hwq; go_big_quiet_step (fail); exact wpQuiet_nil rfl
                  refine Dm.wpF_take (i := 3) (listed' := (Dm.bits 10 15)) (fun _ _ h hx => ⟨h.1.ext hx, h.2.ext hx⟩) HI (by kernel_rfl) (by kernel_rfl) rfl (fun _ _ _ _ h => h) ?_; apply Exists.intro; refine And.intro (fun wq hwq => ?_) ?_
                  · obtain ⟨⟨_, a0, a1, a2, _, _, _⟩, a3, a4⟩ := hwq; go_big_quiet_step (fail); exact wpQuiet_nil rfl
                  refine Dm.wpF_take (i := 4) (listed' := (Dm.bits 10 31)) (fun _ _ h hx => ⟨h.1.ext hx, h.2.ext hx⟩) HI (by kernel_rfl) (by kernel_rfl) rfl (fun _ _ _ _ h => h) ?_; apply Exists.intro; refine And.intro (fun wq hwq => ?_) ?_
                  · obtain ⟨⟨_, a0, a1, a2, _, _, _⟩, a3, a4⟩ := hwq; go_big_quiet_step (fail); exact wpQuiet_nil rfl
                  refine Dm.wpF_take (i := 5) (listed' := (Dm.bits 10 63)) (fun _ _ h hx => ⟨h.1.ext hx, h.2.ext hx⟩) HI (by kernel_rfl) (by kernel_rfl) rfl (fun _ _ _ _ h => h) ?_; apply Exists.intro; refine And.intro (fun wq hwq => ?_) ?_
                  · obtain ⟨⟨_, a0, a1, a2, _, _, _⟩, a3, a4⟩ := hwq; go_big_quiet_step (fail); exact wpQuiet_nil rfl
                  refine Dm.wpF_one (i := 6) (listed' := (Dm.bits 10 127)) (by kernel_rfl) (by kernel_rfl) rfl (fun wm6 hxm6 => ?_)
                  have ha := hxm6.trans ((Ext.refl wm6).alloc (.cells #[.string AB] 9))
                  have hl5 := Sl.lit wm6 9 1 1 #[.string AB] rfl (by simp [maxLen])
                  go_wp2_with fail
                  generalize wm6.alloc (.cells #[.string AB] 9) = w6 at *
                  have C6 := hCm.ext ha
                  have o6 := Ext.row hom ha
                  have A6 := halm.ext ha
                  have O6 := hOm.ext ha
                  have E6 := hEm.trans ha
                  have S6 := Nat.le_trans hSm ha.size
                  have HI6 : Cell3 cb (.string KB) (.bool no) v w6 ∧ Has w5a.heap.size m (.string AB) w6 := ⟨C6, HI.2.ext ha⟩
                  refine ⟨(by first | exact HI6 | exact fun _ => HI6), ?_⟩
                  replace HI := HI6
                  try simp only [Act.put, List.setIfInBounds_toArray, List.set_cons_succ, List.set_cons_zero]
                  refine Dm.wpF_one (i := 7) (listed' := (Dm.bits 10 255)) (by kernel_rfl) (by kernel_rfl) rfl (fun wm7 hxm7 => ?_)
                  replace C6 := C6.ext hxm7
                  replace o6 := Ext.row o6 hxm7
                  replace A6 := A6.ext hxm7
                  replace O6 := O6.ext hxm7
                  replace E6 := Ext.trans' E6 hxm7
                  replace S6 := Nat.le_trans S6 hxm7.size
                  replace hl5 := hl5.ext hxm7
                  have HI7 := HI.2.ext hxm7
                  have hq : ∀ c, v.ownBlock = some c → W1.heap.size ≤ c := fun c e => (World.ownsRow.lt o6 c e).1
                  refine wpList_app rfl _ _ Tryd.slStr rfl rfl o6 rfl hl5 (strs_one [AB]) (by omega) S6 ?_; intro v6 w7 o7 g7
                  replace C6 := C6.grown g7 (fun e => by have := hq _ e; omega)
                  replace A6 : Strs w7 (.slice (some ⟨w5a.heap.size, 0, none⟩) 4 4) allB := Sl.grown A6 g7 (Or.inr fun c e e2 => by have h1 : w5a.heap.size = c := Option.some.inj e; have h2 := hq c e2; omega)
                  replace O6 := O6.later lt1 lt2 g7 (fun c e => by have := hq _ e; omega)
                  replace E6 : Ext w w7 := E6.grown g7 E6.size (fun c e => by have := hq _ e; have := hEw.size; omega)
                  replace S6 := Nat.le_trans S6 g7.size
                  have HI8 : Cell3 cb (.string KB) (.bool no) v w7 ∧ Has w5a.heap.size m (.string AB) w7 := ⟨C6, HI7.grown g7 (fun e => by have := hq _ e; omega)⟩
                  refine wpList_nil ?_
                  refine ⟨(by first | exact HI8 | exact fun _ => HI8), ?_⟩
                  replace HI := HI8
                  obtain ⟨q6, cap6, rfl⟩ := row_shape o7
                  try simp only [Act.put, List.setIfInBounds_toArray, List.set_cons_succ, List.set_cons_zero]
                  refine Dm.wpF_take (i := 8) (listed' := (Dm.bits 10 511)) (fun _ _ h hx => ⟨h.1.ext hx, h.2.ext hx⟩) HI (by kernel_rfl) (by kernel_rfl) rfl (fun _ _ _ _ h => h) ?_; apply Exists.intro; refine And.intro (fun wq hwq => ?_) ?_
                  · obtain ⟨⟨_, a0, a1, a2, _, _, _⟩, a3, a4⟩ := hwq; go_big_quiet_step (fail); exact wpQuiet_nil rfl
                  refine Dm.wpF_one (i := 9) (listed' := (Dm.bits 10 1023)) (by kernel_rfl) (by kernel_rfl) rfl (fun wz hxz => ?_)
                  obtain ⟨_, z0, z1, z2, _, _, y2⟩ := C6.ext hxz
                  go_wp2_with fail
                  first | refine ⟨fun h => absurd rfl h, ?_⟩ | skip
                  refine Dm.wpF_done (by kernel_rfl) (fun wy hxy => ?_)
                  have C8 := ((C6.ext hxz).set2 (.slice q6 ((valsTo z m).length + 1) cap6)).ext hxy
                  have gS := grown_set wz cb 2 (.slice q6 ((valsTo z m).length + 1) cap6)
                  have A8 : Strs wy (.slice (some ⟨w5a.heap.size, 0, none⟩) 4 4) allB := (Sl.grown (A6.ext hxz) gS (Or.inr fun c e e2 => by have h1 : w5a.heap.size = c := Option.some.inj e; have h2 : cb = c := Option.some.inj e2; omega)).ext hxy
                  have O8 := ((O6.ext hxz).later lt1 lt2 gS (fun c e => by injection e with e; omega)).ext hxy
                  have E8a : Ext w (wz.setCell ⟨cb, 2, none⟩ (.slice q6 ((valsTo z m).length + 1) cap6)) := (Ext.trans' E6 hxz).setCell (p := ⟨cb, 2, none⟩) (by show w.heap.size ≤ cb; have := hb.size; omega) _
                  have E8 : Ext w wy := E8a.trans' hxy
                  have o8 := Ext.row (grown_row (Ext.row o7 hxz) gS (fun c e => by injection e with e; omega)) hxy
                  have S8 : W1.heap.size ≤ wy.heap.size := by have h1 := hxz.size; have h2 := hxy.size; rw [World.size_setCell] at h2; omega
                  rw [← strs_snoc] at o8
                  clear C6 A6 O6 E6 o7 S6 z0 z1 z2 y2 gS
                  go_wp2
                  go_roundw
                  case rel => exact ⟨m + 1, .slice q6 ((valsTo z m).length + 1) cap6, by omega, by go_num, C8, (by rw [hvs.out, List.length_append]; exact o8), A8, O8, E8, S8⟩
                  case measure => simp [intOf]; omega
              · obtain rfl : m = 4 := by omega
                obtain ⟨q6, cap6, rfl⟩ := row_shape hom
                have hval : Strs wr (.slice q6 (valsTo z 4).length cap6) (valsTo z 4) := Strs.of_row hom rfl
                have hvl4 := valsTo_len z 4
                have hap : Apart (.slice q6 (valsTo z 4).length cap6) u3 := fun c hc hu => by
                  have h1 := (World.ownsRow.lt hom c hc).1
                  have h2 := lt1 c hu
                  omega
                obtain ⟨_, y0, y1, y2, _, _, _⟩ := hCm
                have hst' : Hid ((R ++ [(KB, no, Value.slice q6 (valsTo z 4).length cap6, valsTo z 4)]).map rowT = madeS zs (k + 1)) := by
                  show _ = _
                  rw [hst.out, hterm.out, List.map_append, hR.out]; rfl
                generalize valsTo z 4 = V4 at *
                have ha4 := (Ext.refl wr).alloc (.cells #[.string KB, .bool no, .slice q6 V4.length cap6] 57)
                have hb4 := hEm.trans ha4
                have ho4 := hOm.ext ha4
                have hv4 := hval.ext ha4
                have hl4 := Sl.lit wr 57 3 1 #[.string KB, .bool no, .slice q6 V4.length cap6] rfl (by simp [maxLen])
                clear hom hval
                go_wp2_with (at_builtin; refine wpList_appT rfl _ _ Tryd.slTerm rfl hb4 rfl ho4 (r := (KB, no, .slice q6 V4.length cap6, V4)) rfl hl4 hv4 (Or.inr hap) (by omega) ?_; intro v5 w5 ho5 hb5 _)
                go_roundw
                case rel => exact ⟨k + 1, R ++ [(KB, no, .slice q6 V4.length cap6, V4)], by omega, by omega, by go_num, hb5, ho5, hst'⟩
                case measure => simp [intOf]; omega
          ·
            have hX2a := Ext.trans hX1b hx2a
            replace hk4 := hk4.ext hx2a
            have hC := Cell3.new w2a (.string ⟨#[]⟩) (.bool false) (.slice none 0 0) 57
            have hs2 := (Ext.refl w2a).alloc (.cells #[.string ⟨#[]⟩, .bool false, .slice none 0 0] 57)
            obtain ⟨cb, hcb⟩ : ∃ cb, cb = w2a.heap.size := ⟨_, rfl⟩
            have hcl : wr.heap.size ≤ cb := by rw [hcb]; exact hX2a.size
            go_wp2_with fail
            generalize w2a.alloc (.cells #[.string ⟨#[]⟩, .bool false, .slice none 0 0] 57) = w2b at *
            rw [← hcb] at hC
            try rw [← hcb]
            clear hcb
            have hX2b := Ext.trans hX2a hs2
            replace hk4 := hk4.ext hs2
            try simp only [Exit.then, Act.put, List.setIfInBounds_toArray, List.set_cons_succ, List.set_cons_zero]
            refine Dm.wpE_one (i := 7) (listed' := (Dm.bits 18 98303)) (by kernel_rfl) (by kernel_rfl) rfl hX2b (fun w6a hx6a => ?_)
            have hX6a := Ext.trans hX2b hx6a
            replace hk4 := hk4.ext hx6a
            replace hC := hC.ext hx6a
            obtain ⟨hkb, hkc⟩ := hk4.cells (k := j) (by simp [keys4]; omega)
            rw [← hKB.out, Nat.zero_add] at hkc
            go_wp2_with fail
            have hX6b := hX6a
            try simp only [Exit.then, Act.put, List.setIfInBounds_toArray, List.set_cons_succ, List.set_cons_zero]
            refine Dm.wpE_take (i := 15) (listed' := (Dm.bits 18 131071)) (by kernel_rfl) (by kernel_rfl) rfl (fun _ _ _ _ h => h) ?_; apply Exists.intro; refine And.intro (fun x => ?_) ?_
            · go_big_quiet_step (fail); exact wpQuiet_nil rfl
            refine Dm.wpE_one (i := 17) (listed' := (Dm.bits 18 262143)) (by kernel_rfl) (by kernel_rfl) rfl hX6b (fun w7a hx7a => ?_)
            have hX7a := Ext.trans hX6b hx7a
            replace hk4 := hk4.ext hx7a
            replace hC := hC.ext hx7a
            have hC2 := hC.put (.string KB) (.bool no) (.slice none 0 0)
            have hX2 : Ext wr (((w7a.setCell ⟨cb, 0, none⟩ (.string KB)).setCell ⟨cb, 1, none⟩ (.bool no)).setCell ⟨cb, 2, none⟩ (.slice none 0 0)) := below_put3 hX7a hcl _ _ _
            obtain ⟨_, y1, y2, y3, y4, y5, y6⟩ := id hC
            go_wp2_with fail
            generalize ((w7a.setCell ⟨cb, 0, none⟩ (.string KB)).setCell ⟨cb, 1, none⟩ (.bool no)).setCell ⟨cb, 2, none⟩ (.slice none 0 0) = w7b at *
            have hX7b := hX2
            clear y1 y2 y3 y4 y5 y6 hC hk4 hX2
            try simp only [Exit.then, Act.put, List.setIfInBounds_toArray, List.set_cons_succ, List.set_cons_zero]
            refine Dm.wpE_done (by kernel_rfl) hX7b (fun w8a hx8a => ?_)
            have hX8a := Ext.trans hX7b hx8a
            replace hC2 := hC2.ext hx8a
            have hal4 : Strs (w8a.alloc (.cells #[.string ⟨#[97]⟩, .string ⟨#[98]⟩, .string ⟨#[99]⟩, .string ⟨#[208, 180, 208, 190, 208, 188]⟩] 9)) (.slice (some ⟨w8a.heap.size, 0, none⟩) 4 4) allB := Sl.lit w8a 9 1 4 #[.string ⟨#[97]⟩, .string ⟨#[98]⟩, .string ⟨#[99]⟩, .string ⟨#[208, 180, 208, 190, 208, 188]⟩] rfl (by simp [maxLen])
            have hE4 : Ext wr (w8a.alloc (.cells #[.string ⟨#[97]⟩, .string ⟨#[98]⟩, .string ⟨#[99]⟩, .string ⟨#[208, 180, 208, 190, 208, 188]⟩] 9)) := Ext.trans hX8a ((Ext.refl w8a).alloc _)
            have hC3 := hC2.ext ((Ext.refl w8a).alloc (.cells #[.string ⟨#[97]⟩, .string ⟨#[98]⟩, .string ⟨#[99]⟩, .string ⟨#[208, 180, 208, 190, 208, 188]⟩] 9))
            have ho4 := ho.ext hE4
            have hS4 : w8a.heap.size < (w8a.alloc (.cells #[.string ⟨#[97]⟩, .string ⟨#[98]⟩, .string ⟨#[99]⟩, .string ⟨#[208, 180, 208, 190, 208, 188]⟩] 9)).heap.size := by simp
            obtain ⟨lt1, lt2⟩ := ho.lts
            have hcb : cb < w8a.heap.size := hC2.lt
            go_wp2
            generalize w8a.alloc (.cells #[.string ⟨#[97]⟩, .string ⟨#[98]⟩, .string ⟨#[99]⟩, .string ⟨#[208, 180, 208, 190, 208, 188]⟩] 9) = W1 at *
            have hEw := hb.trans hE4
            clear hE4 hC2
            have hk4d : decide ((k : Int) < 4) = true := decide_eq_true (by omega)
            simp only [hk4d, hjq']
            go_loopw [7] (fun i' wq => ∃ (m : Nat) (v : Value), m ≤ 4 ∧ i' = .int .i64 m ∧ Cell3 cb (.string KB) (.bool no) v wq ∧ wq.ownsRow W1.heap.size 9 1 v (valsTo z m).length ((valsTo z m).map .string) ∧ Strs wq (.slice (some ⟨w8a.heap.size, 0, none⟩) 4 4) allB ∧ TRow 57 w.heap.size wq u3 k R ∧ Ext w wq ∧ W1.heap.size ≤ wq.heap.size) (fun i' _ => 4 - (intOf i').toNat)
            case atStart => exact ⟨0, .slice none 0 0, by omega, rfl, hC3, World.ownsRow_nil _ _ _ _, hal4, ho4, hEw, Nat.le_refl _⟩
            case round =>
              obtain ⟨m, v, hm, rfl, hCm, hom, halm, hOm, hEm, hSm⟩ := hrel
              by_cases hlm : m < 4
              · obtain ⟨b9, off9, e9, hbl9, cm⟩ := (hx.ext hEm).at hlt
                injection e9 with e9
                injection e9 with e91 e92
                subst e91 e92
                rw [hzn.out] at cm
                have hbm := hbit.out m
                have hml := valsTo_len z m
                cases hbt : (z / 2 ^ (4 + m) % 2 == 1) with
                | false =>
                  rw [hbt] at hbm
                  have hvs : Hid (valsTo z (m + 1) = valsTo z m) := by
                    show valsTo z m ++ _ = _
                    rw [if_neg (by simpa using hbt), List.append_nil]
                  clear hbt
                  go_wp2
                  go_roundw
                  case rel => exact ⟨m + 1, v, by omega, by go_num, hCm, (by rw [hvs.out]; exact hom), halm, hOm, hEm, hSm⟩
                  case measure => simp [intOf]; omega
                | true =>
                  rw [hbt] at hbm
                  have hvs : Hid (valsTo z (m + 1) = valsTo z m ++ [strAt allB m]) := by
                    show valsTo z m ++ _ = _
                    rw [if_pos (by simpa using hbt)]
                  clear hbt
                  obtain ⟨hSb, hSc⟩ := halm.cells (k := m) hlm
                  rw [Nat.zero_add] at hSc
                  generalize strAt allB m = AB at *
                  have HI : Cell3 cb (.string KB) (.bool no) v wr ∧ Has w8a.heap.size m (.string AB) wr := ⟨hCm, hSb, hSc⟩
                  clear hSb hSc
                  go_wp2_with fail
                  try simp only [Act.put, List.setIfInBounds_toArray, List.set_cons_succ, List.set_cons_zero]
                  refine Dm.wp_region_fin (I := (fun w' => Cell3 cb (.string KB) (.bool no) v w' ∧ Has w8a.heap.size m (.string AB) w')) (z := 9) 10 (Dm.bits 10 0) (by kernel_rfl) (by kernel_rfl) (by kernel_rfl) ?_
                  refine Dm.wpF_take (i := 0) (listed' := (Dm.bits 10 1)) (fun _ _ h hx => ⟨h.1.ext hx, h.2.ext hx⟩) HI (by kernel_rfl) (by kernel_rfl) rfl (fun _ _ _ _ h => h) ?_; apply Exists.intro; refine And.intro (fun wq hwq => ?_) ?_
                  · obtain ⟨⟨_, a0, a1, a2, _, _, _⟩, a3, a4⟩ := hwq; go_big_quiet_step (fail); exact wpQuiet_nil rfl
                  refine Dm.wpF_take (i := 1) (listed' := (Dm.bits 10 3)) (fun _ _ h hx => ⟨h.1.ext hx, h.2.ext hx⟩) HI (by kernel_rfl) (by kernel_rfl) rfl (fun _ _ _ _ h => h) ?_; apply Exists.intro; refine And.intro (fun wq hwq => ?_) ?_
                  · obtain ⟨⟨_, a0, a1, a2, _, _, _⟩, a3, a4⟩ := hwq; go_big_quiet_step (fail); exact wpQuiet_nil rfl
                  refine Dm.wpF_take (i := 2) (listed' := (Dm.bits 10 7)) (fun _ _ h hx => ⟨h.1.ext hx, h.2.ext hx⟩) HI (by kernel_rfl) (by kernel_rfl) rfl (fun _ _ _ _ h => h) ?_; apply Exists.intro; refine And.intro (fun wq hwq => ?_) ?_
                  · obtain ⟨⟨_, a0, a1, a2, _, _, _⟩, a3, a4⟩ := hwq; go_big_quiet_step (fail); exact wpQuiet_nil rfl
                  refine Dm.wpF_take (i := 3) (listed' := (Dm.bits 10 15)) (fun _ _ h hx => ⟨h.1.ext hx, h.2.ext hx⟩) HI (by kernel_rfl) (by kernel_rfl) rfl (fun _ _ _ _ h => h) ?_; apply Exists.intro; refine And.intro (fun wq hwq => ?_) ?_
                  · obtain ⟨⟨_, a0, a1, a2, _, _, _⟩, a3, a4⟩ := hwq; go_big_quiet_step (fail); exact wpQuiet_nil rfl
                  refine Dm.wpF_take (i := 4) (listed' := (Dm.bits 10 31)) (fun _ _ h hx => ⟨h.1.ext hx, h.2.ext hx⟩) HI (by kernel_rfl) (by kernel_rfl) rfl (fun _ _ _ _ h => h) ?_; apply Exists.intro; refine And.intro (fun wq hwq => ?_) ?_
                  · obtain ⟨⟨_, a0, a1, a2, _, _, _⟩, a3, a4⟩ := hwq; go_big_quiet_step (fail); exact wpQuiet_nil rfl
                  refine Dm.wpF_take (i := 5) (listed' := (Dm.bits 10 63)) (fun _ _ h hx => ⟨h.1.ext hx, h.2.ext hx⟩) HI (by kernel_rfl) (by kernel_rfl) rfl (fun _ _ _ _ h => h) ?_; apply Exists.intro; refine And.intro (fun wq hwq => ?_) ?_
                  · obtain ⟨⟨_, a0, a1, a2, _, _, _⟩, a3, a4⟩ := hwq; go_big_quiet_step (fail); exact wpQuiet_nil rfl
                  refine Dm.wpF_one (i := 6) (listed' := (Dm.bits 10 127)) (by kernel_rfl) (by kernel_rfl) rfl (fun wm6 hxm6 => ?_)
                  have ha := hxm6.trans ((Ext.refl wm6).alloc (.cells #[.string AB] 9))
                  have hl5 := Sl.lit wm6 9 1 1 #[.string AB] rfl (by simp [maxLen])
                  go_wp2_with fail
                  generalize wm6.alloc (.cells #[.string AB] 9) = w6 at *
                  have C6 := hCm.ext ha
                  have o6 := Ext.row hom ha
                  have A6 := halm.ext ha
                  have O6 := hOm.ext ha
                  have E6 := hEm.trans ha
                  have S6 := Nat.le_trans hSm ha.size
                  have HI6 : Cell3 cb (.string KB) (.bool no) v w6 ∧ Has w8a.heap.size m (.string AB) w6 := ⟨C6, HI.2.ext ha⟩
                  refine ⟨(by first | exact HI6 | exact fun _ => HI6), ?_⟩
                  replace HI := HI6
                  try simp only [Act.put, List.setIfInBounds_toArray, List.set_cons_succ, List.set_cons_zero]
                  refine Dm.wpF_one (i := 7) (listed' := (Dm.bits 10 255)) (by kernel_rfl) (by kernel_rfl) rfl (fun wm7 hxm7 => ?_)
                  replace C6 := C6.ext hxm7
                  replace o6 := Ext.row o6 hxm7
                  replace A6 := A6.ext hxm7
                  replace O6 := O6.ext hxm7
                  replace E6 := Ext.trans' E6 hxm7
                  replace S6 := Nat.le_trans S6 hxm7.size
                  replace hl5 := hl5.ext hxm7
                  have HI7 := HI.2.ext hxm7
                  have hq : ∀ c, v.ownBlock = some c → W1.heap.size ≤ c := fun c e => (World.ownsRow.lt o6 c e).1
                  refine wpList_app rfl _ _ Tryd.slStr rfl rfl o6 rfl hl5 (strs_one [AB]) (by omega) S6 ?_; intro v6 w7 o7 g7
                  replace C6 := C6.grown g7 (fun e => by have := hq _ e; omega)
                  replace A6 : Strs w7 (.slice (some ⟨w8a.heap.size, 0, none⟩) 4 4) allB := Sl.grown A6 g7 (Or.inr fun c e e2 => by have h1 : w8a.heap.size = c := Option.some.inj e; have h2 := hq c e2; omega)
                  replace O6 := O6.later lt1 lt2 g7 (fun c e => by have := hq _ e; omega)
                  replace E6 : Ext w w7 := E6.grown g7 E6.size (fun c e => by have := hq _ e; have := hEw.size; omega)
                  replace S6 := Nat.le_trans S6 g7.size
                  have HI8 : Cell3 cb (.string KB) (.bool no) v w7 ∧ Has w8a.heap.size m (.string AB) w7 := ⟨C6, HI7.grown g7 (fun e => by have := hq _ e; omega)⟩
                  refine wpList_nil ?_
                  refine ⟨(by first | exact HI8 | exact fun _ => HI8), ?_⟩
                  replace HI := HI8
                  obtain ⟨q6, cap6, rfl⟩ := row_shape o7
                  try simp only [Act.put, List.setIfInBounds_toArray, List.set_cons_succ, List.set_cons_zero]
                  refine Dm.wpF_take (i := 8) (listed' := (Dm.bits 10 511)) (fun _ _ h hx => ⟨h.1.ext hx, h.2.ext hx⟩) HI (by kernel_rfl) (by kernel_rfl) rfl (fun _ _ _ _ h => h) ?_; apply Exists.intro; refine And.intro (fun wq hwq => ?_) ?_
                  · obtain ⟨⟨_, a0, a1, a2, _, _, _⟩, a3, a4⟩ := hwq; go_big_quiet_step (fail); exact wpQuiet_nil rfl
                  refine Dm.wpF_one (i := 9) (listed' := (Dm.bits 10 1023)) (by kernel_rfl) (by kernel_rfl) rfl (fun wz hxz => ?_)
                  obtain ⟨_, z0, z1, z2, _, _, y2⟩ := C6.ext hxz
                  go_wp2_with fail
                  first | refine ⟨fun h => absurd rfl h, ?_⟩ | skip
                  refine Dm.wpF_done (by kernel_rfl) (fun wy hxy => ?_)
                  have C8 := ((C6.ext hxz).set2 (.slice q6 ((valsTo z m).length + 1) cap6)).ext hxy
                  have gS := grown_set wz cb 2 (.slice q6 ((valsTo z m).length + 1) cap6)
                  have A8 : Strs wy (.slice (some ⟨w8a.heap.size, 0, none⟩) 4 4) allB := (Sl.grown (A6.ext hxz) gS (Or.inr fun c e e2 => by have h1 : w8a.heap.size = c := Option.some.inj e; have h2 : cb = c := Option.some.inj e2; omega)).ext hxy
                  have O8 := ((O6.ext hxz).later lt1 lt2 gS (fun c e => by injection e with e; omega)).ext hxy
                  have E8a : Ext w (wz.setCell ⟨cb, 2, none⟩ (.slice q6 ((valsTo z m).length + 1) cap6)) := (Ext.trans' E6 hxz).setCell (p := ⟨cb, 2, none⟩) (by show w.heap.size ≤ cb; have := hb.size; omega) _
                  have E8 : Ext w wy := E8a.trans' hxy
                  have o8 := Ext.row (grown_row (Ext.row o7 hxz) gS (fun c e => by injection e with e; omega)) hxy
                  have S8 : W1.heap.size ≤ wy.heap.size := by have h1 := hxz.size; have h2 := hxy.size; rw [World.size_setCell] at h2; omega
                  rw [← strs_snoc] at o8
                  clear C6 A6 O6 E6 o7 S6 z0 z1 z2 y2 gS
                  go_wp2
                  go_roundw
                  case rel => exact ⟨m + 1, .slice q6 ((valsTo z m).length + 1) cap6, by omega, by go_num, C8, (by rw [hvs.out, List.length_append]; exact o8), A8, O8, E8, S8⟩
                  case measure => simp [intOf]; omega
              · obtain rfl : m = 4 := by omega
                obtain ⟨q6, cap6, rfl⟩ := row_shape hom
                have hval : Strs wr (.slice q6 (valsTo z 4).length cap6) (valsTo z 4) := Strs.of_row hom rfl
                have hvl4 := valsTo_len z 4
                have hap : Apart (.slice q6 (valsTo z 4).length cap6) u3 := fun c hc hu => by
                  have h1 := (World.ownsRow.lt hom c hc).1
                  have h2 := lt1 c hu
                  omega
                obtain ⟨_, y0, y1, y2, _, _, _⟩ := hCm
                have hst' : Hid ((R ++ [(KB, no, Value.slice q6 (valsTo z 4).length cap6, valsTo z 4)]).map rowT = madeS zs (k + 1)) := by
                  show _ = _
                  rw [hst.out, hterm.out, List.map_append, hR.out]; rfl
                generalize valsTo z 4 = V4 at *
                have ha4 := (Ext.refl wr).alloc (.cells #[.string KB, .bool no, .slice q6 V4.length cap6] 57)
                have hb4 := hEm.trans ha4
                have ho4 := hOm.ext ha4
                have hv4 := hval.ext ha4
                have hl4 := Sl.lit wr 57 3 1 #[.string KB, .bool no, .slice q6 V4.length cap6] rfl (by simp [maxLen])
                clear hom hval
                go_wp2_with (at_builtin; refine wpList_appT rfl _ _ Tryd.slTerm rfl hb4 rfl ho4 (r := (KB, no, .slice q6 V4.length cap6, V4)) rfl hl4 hv4 (Or.inr hap) (by omega) ?_; intro v5 w5 ho5 hb5 _)
                go_roundw
                case rel => exact ⟨k + 1, R ++ [(KB, no, .slice q6 V4.length cap6, V4)], by omega, by omega, by go_num, hb5, ho5, hst'⟩
                case measure => simp [intOf]; omega
        ·
          have hX1a := Ext.trans (Ext.refl wr) hx1a
          have hC := Cell3.new w1a (.string ⟨#[]⟩) (.bool false) (.slice none 0 0) 57
          have hs1 := (Ext.refl w1a).alloc (.cells #[.string ⟨#[]⟩, .bool false, .slice none 0 0] 57)
          obtain ⟨cb, hcb⟩ : ∃ cb, cb = w1a.heap.size := ⟨_, rfl⟩
          have hcl : wr.heap.size ≤ cb := by rw [hcb]; exact hX1a.size
          go_wp2_with fail
          generalize w1a.alloc (.cells #[.string ⟨#[]⟩, .bool false, .slice none 0 0] 57) = w1b at *
          rw [← hcb] at hC
          try rw [← hcb]
          clear hcb
          have hX1b := Ext.trans hX1a hs1
          try simp only [Exit.then, Act.put, List.setIfInBounds_toArray, List.set_cons_succ, List.set_cons_zero]
          refine Dm.wpE_one (i := 0) (listed' := (Dm.bits 18 98111)) (by kernel_rfl) (by kernel_rfl) rfl hX1b (fun w9a hx9a => ?_)
          have hX9a := Ext.trans hX1b hx9a
          replace hC := hC.ext hx9a
          have hk4 : Strs (w9a.alloc (.cells #[.string ⟨#[97]⟩, .string ⟨#[100, 105, 115, 107]⟩, .string ⟨#[122, 111, 110, 101]⟩, .string ⟨#[206, 177, 206, 178]⟩] 9)) (.slice (some ⟨w9a.heap.size, 0, none⟩) 4 4) keys4 := Sl.lit w9a 9 1 4 #[.string ⟨#[97]⟩, .string ⟨#[100, 105, 115, 107]⟩, .string ⟨#[122, 111, 110, 101]⟩, .string ⟨#[206, 177, 206, 178]⟩] rfl (by simp [maxLen])
          have hs9 := (Ext.refl w9a).alloc (.cells #[.string ⟨#[97]⟩, .string ⟨#[100, 105, 115, 107]⟩, .string ⟨#[122, 111, 110, 101]⟩, .string ⟨#[206, 177, 206, 178]⟩] 9)
          go_wp2_with fail
          generalize w9a.alloc (.cells #[.string ⟨#[97]⟩, .string ⟨#[100, 105, 115, 107]⟩, .string ⟨#[122, 111, 110, 101]⟩, .string ⟨#[206, 177, 206, 178]⟩] 9) = w9b at *
          have hX9b := Ext.trans hX9a hs9
          replace hC := hC.ext hs9
          try simp only [Exit.then, Act.put, List.setIfInBounds_toArray, List.set_cons_succ, List.set_cons_zero]
          refine Dm.wpE_take (i := 6) (listed' := (Dm.bits 18 98175)) (by kernel_rfl) (by kernel_rfl) rfl (fun _ _ _ _ h => h) ?_; apply Exists.intro; refine And.intro (fun x => ?_) ?_
          · go_big_quiet_step (fail); exact wpQuiet_nil rfl
          refine Dm.wpE_one (i := 7) (listed' := (Dm.bits 18 98303)) (by kernel_rfl) (by kernel_rfl) rfl hX9b (fun w10a hx10a => ?_)
          have hX10a := Ext.trans hX9b hx10a
          replace hC := hC.ext hx10a
          replace hk4 := hk4.ext hx10a
          obtain ⟨hkb, hkc⟩ := hk4.cells (k := j) (by simp [keys4]; omega)
          rw [← hKB.out, Nat.zero_add] at hkc
          go_wp2_with fail
          have hX10b := hX10a
          try simp only [Exit.then, Act.put, List.setIfInBounds_toArray, List.set_cons_succ, List.set_cons_zero]
          refine Dm.wpE_take (i := 15) (listed' := (Dm.bits 18 131071)) (by kernel_rfl) (by kernel_rfl) rfl (fun _ _ _ _ h => h) ?_; apply Exists.intro; refine And.intro (fun x => ?_) ?_
          · go_big_quiet_step (fail); exact wpQuiet_nil rfl
          refine Dm.wpE_one (i := 17) (listed' := (Dm.bits 18 262143)) (by kernel_rfl) (by kernel_rfl) rfl hX10b (fun w11a hx11a => ?_)
          have hX11a := Ext.trans hX10b hx11a
          replace hC := hC.ext hx11a
          replace hk4 := hk4.ext hx11a
          have hC2 := hC.put (.string KB) (.bool no) (.slice none 0 0)
          have hX2 : Ext wr (((w11a.setCell ⟨cb, 0, none⟩ (.string KB)).setCell ⟨cb, 1, none⟩ (.bool no)).setCell ⟨cb, 2, none⟩ (.slice none 0 0)) := below_put3 hX11a hcl _ _ _
          obtain ⟨_, y1, y2, y3, y4, y5, y6⟩ := id hC
          go_wp2_with fail
          generalize ((w11a.setCell ⟨cb, 0, none⟩ (.string KB)).setCell ⟨cb, 1, none⟩ (.bool no)).setCell ⟨cb, 2, none⟩ (.slice none 0 0) = w11b at *
          have hX11b := hX2
          clear y1 y2 y3 y4 y5 y6 hC hk4 hX2
          try simp only [Exit.then, Act.put, List.setIfInBounds_toArray, List.set_cons_succ, List.set_cons_zero]
          refine Dm.wpE_done (by kernel_rfl) hX11b (fun w12a hx12a => ?_)
          have hX12a := Ext.trans hX11b hx12a
          replace hC2 := hC2.ext hx12a
          have hal4 : Strs (w12a.alloc (.cells #[.string ⟨#[97]⟩, .string ⟨#[98]⟩, .string ⟨#[99]⟩, .string ⟨#[208, 180, 208, 190, 208, 188]⟩] 9)) (.slice (some ⟨w12a.heap.size, 0, none⟩) 4 4) allB := Sl.lit w12a 9 1 4 #[.string ⟨#[97]⟩, .string ⟨#[98]⟩, .string ⟨#[99]⟩, .string ⟨#[208, 180, 208, 190, 208, 188]⟩] rfl (by simp [maxLen])
          have hE4 : Ext wr (w12a.alloc (.cells #[.string ⟨#[97]⟩, .string ⟨#[98]⟩, .string ⟨#[99]⟩, .string ⟨#[208, 180, 208, 190, 208, 188]⟩] 9)) := Ext.trans hX12a ((Ext.refl w12a).alloc _)
          have hC3 := hC2.ext ((Ext.refl w12a).alloc (.cells #[.string ⟨#[97]⟩, .string ⟨#[98]⟩, .string ⟨#[99]⟩, .string ⟨#[208, 180, 208, 190, 208, 188]⟩] 9))
          have ho4 := ho.ext hE4
          have hS4 : w12a.heap.size < (w12a.alloc (.cells #[.string ⟨#[97]⟩, .string ⟨#[98]⟩, .string ⟨#[99]⟩, .string ⟨#[208, 180, 208, 190, 208, 188]⟩] 9)).heap.size := by simp
          obtain ⟨lt1, lt2⟩ := ho.lts
          have hcb : cb < w12a.heap.size := hC2.lt
          go_wp2
          generalize w12a.alloc (.cells #[.string ⟨#[97]⟩, .string ⟨#[98]⟩, .string ⟨#[99]⟩, .string ⟨#[208, 180, 208, 190, 208, 188]⟩] 9) = W1 at *
          have hEw := hb.trans hE4
          clear hE4 hC2
          have hk4d : decide ((k : Int) < 4) = true := decide_eq_true (by omega)
          simp only [hk4d, hjq']
          go_loopw [7] (fun i' wq => ∃ (m : Nat) (v : Value), m ≤ 4 ∧ i' = .int .i64 m ∧ Cell3 cb (.string KB) (.bool no) v wq ∧ wq.ownsRow W1.heap.size 9 1 v (valsTo z m).length ((valsTo z m).map .string) ∧ Strs wq (.slice (some ⟨w12a.heap.size, 0, none⟩) 4 4) allB ∧ TRow 57 w.heap.size wq u3 k R ∧ Ext w wq ∧ W1.heap.size ≤ wq.heap.size) (fun i' _ => 4 - (intOf i').toNat)
          case atStart => exact ⟨0, .slice none 0 0, by omega, rfl, hC3, World.ownsRow_nil _ _ _ _, hal4, ho4, hEw, Nat.le_refl _⟩
          case round =>
            obtain ⟨m, v, hm, rfl, hCm, hom, halm, hOm, hEm, hSm⟩ := hrel
            by_cases hlm : m < 4
            · obtain ⟨b9, off9, e9, hbl9, cm⟩ := (hx.ext hEm).at hlt
              injection e9 with e9
              injection e9 with e91 e92
              subst e91 e92
              rw [hzn.out] at cm
              have hbm := hbit.out m
              have hml := valsTo_len z m
              cases hbt : (z / 2 ^ (4 + m) % 2 == 1) with
              | false =>
                rw [hbt] at hbm
                have hvs : Hid (valsTo z (m + 1) = valsTo z m) := by
                  show valsTo z m ++ _ = _
                  rw [if_neg (by simpa using hbt), List.append_nil]
                clear hbt
                go_wp2
                go_roundw
                case rel => exact ⟨m + 1, v, by omega, by go_num, hCm, (by rw [hvs.out]; exact hom), halm, hOm, hEm, hSm⟩
                case measure => simp [intOf]; omega
              | true =>
                rw [hbt] at hbm
                have hvs : Hid (valsTo z (m + 1) = valsTo z m ++ [strAt allB m]) := by
                  show valsTo z m ++ _ = _
                  rw [if_pos (by simpa using hbt)]
                clear hbt
                obtain ⟨hSb, hSc⟩ := halm.cells (k := m) hlm
                rw [Nat.zero_add] at hSc
                generalize strAt allB m = AB at *
                have HI : Cell3 cb (.string KB) (.bool no) v wr ∧ Has w12a.heap.size m (.string AB) wr := ⟨hCm, hSb, hSc⟩
                clear hSb hSc
                go_wp2_with fail
                try simp only [Act.put, List.setIfInBounds_toArray, List.set_cons_succ, List.set_cons_zero]
                refine Dm.wp_region_fin (I := (fun w' => Cell3 cb (.string KB) (.bool no) v w' ∧ Has w12a.heap.size m (.string AB) w')) (z := 9) 10 (Dm.bits 10 0) (by kernel_rfl) (by kernel_rfl) (by kernel_rfl) ?_
                refine Dm.wpF_take (i := 0) (listed' := (Dm.bits 10 1)) (fun _ _ h hx => ⟨h.1.ext hx, h.2.ext hx⟩) HI (by kernel_rfl) (by kernel_rfl) rfl (fun _ _ _ _ h => h) ?_; apply Exists.intro; refine And.intro (fun wq hwq => ?_) ?_
                · obtain ⟨⟨_, a0, a1, a2, _, _, _⟩, a3, a4⟩ := hwq; go_big_quiet_step (fail); exact wpQuiet_nil rfl
                refine Dm.wpF_take (i := 1) (listed' := (Dm.bits 10 3)) (fun _ _ h hx => ⟨h.1.ext hx, h.2.ext hx⟩) HI (by kernel_rfl) (by kernel_rfl) rfl (fun _ _ _ _ h => h) ?_; apply Exists.intro; refine And.intro (fun wq hwq => ?_) ?_
                · obtain ⟨⟨_, a0, a1, a2, _, _, _⟩, a3, a4⟩ := hwq; go_big_quiet_step (fail); exact wpQuiet_nil rfl
                refine Dm.wpF_take (i := 2) (listed' := (Dm.bits 10 7)) (fun _ _ h hx => ⟨h.1.ext hx, h.2.ext hx⟩) HI (by kernel_rfl) (by kernel_rfl) rfl (fun _ _ _ _ h => h) ?_; apply Exists.intro; refine And.intro (fun wq hwq => ?_) ?_
                · obtain ⟨⟨_, a0, a1, a2, _, _, _⟩, a3, a4⟩ := hwq; go_big_quiet_step (fail); exact wpQuiet_nil rfl
                refine Dm.wpF_take (i := 3) (listed' := (Dm.bits 10 15)) (fun _ _ h hx => ⟨h.1.ext hx, h.2.ext hx⟩) HI (by kernel_rfl) (by kernel_rfl) rfl (fun _ _ _ _ h => h) ?_; apply Exists.intro; refine And.intro (fun wq hwq => ?_) ?_
                · obtain ⟨⟨_, a0, a1, a2, _, _, _⟩, a3, a4⟩ := hwq; go_big_quiet_step (fail); exact wpQuiet_nil rfl
                refine Dm.wpF_take (i := 4) (listed' := (Dm.bits 10 31)) (fun _ _ h hx => ⟨h.1.ext hx, h.2.ext hx⟩) HI (by kernel_rfl) (by kernel_rfl) rfl (fun _ _ _ _ h => h) ?_; apply Exists.intro; refine And.intro (fun wq hwq => ?_) ?_
                · obtain ⟨⟨_, a0, a1, a2, _, _, _⟩, a3, a4⟩ := hwq; go_big_quiet_step (fail); exact wpQuiet_nil rfl
                refine Dm.wpF_take (i := 5) (listed' := (Dm.bits 10 63)) (fun _ _ h hx => ⟨h.1.ext hx, h.2.ext hx⟩) HI (by kernel_rfl) (by kernel_rfl) rfl (fun _ _ _ _ h => h) ?_; apply Exists.intro; refine And.intro (fun wq hwq => ?_) ?_
                · obtain ⟨⟨_, a0, a1, a2, _, _, _⟩, a3, a4⟩ := hwq; go_big_quiet_step (fail); exact wpQuiet_nil rfl
                refine Dm.wpF_one (i := 6) (listed' := (Dm.bits 10 127)) (by kernel_rfl) (by kernel_rfl) rfl (fun wm6 hxm6 => ?_)
                have ha := hxm6.trans ((Ext.refl wm6).alloc (.cells #[.string AB] 9))
                have hl5 := Sl.lit wm6 9 1 1 #[.string AB] rfl (by simp [maxLen])
                go_wp2_with fail
                generalize wm6.alloc (.cells #[.string AB] 9) = w6 at *
                have C6 := hCm.ext ha
                have o6 := Ext.row hom ha
                have A6 := halm.ext ha
                have O6 := hOm.ext ha
                have E6 := hEm.trans ha
                have S6 := Nat.le_trans hSm ha.size
                have HI6 : Cell3 cb (.string KB) (.bool no) v w6 ∧ Has w12a.heap.size m (.string AB) w6 := ⟨C6, HI.2.ext ha⟩
                refine ⟨(by first | exact HI6 | exact fun _ => HI6), ?_⟩
                replace HI := HI6
                try simp only [Act.put, List.setIfInBounds_toArray, List.set_cons_succ, List.set_cons_zero]
                refine Dm.wpF_one (i := 7) (listed' := (Dm.bits 10 255)) (by kernel_rfl) (by kernel_rfl) rfl (fun wm7 hxm7 => ?_)
                replace C6 := C6.ext hxm7
                replace o6 := Ext.row o6 hxm7
                replace A6 := A6.ext hxm7
                replace O6 := O6.ext hxm7
                replace E6 := Ext.trans' E6 hxm7
                replace S6 := Nat.le_trans S6 hxm7.size
                replace hl5 := hl5.ext hxm7
                have HI7 := HI.2.ext hxm7
                have hq : ∀ c, v.ownBlock = some c → W1.heap.size ≤ c := fun c e => (World.ownsRow.lt o6 c e).1
                refine wpList_app rfl _ _ Tryd.slStr rfl rfl o6 rfl hl5 (strs_one [AB]) (by omega) S6 ?_; intro v6 w7 o7 g7
                replace C6 := C6.grown g7 (fun e => by have := hq _ e; omega)
                replace A6 : Strs w7 (.slice (some ⟨w12a.heap.size, 0, none⟩) 4 4) allB := Sl.grown A6 g7 (Or.inr fun c e e2 => by have h1 : w12a.heap.size = c := Option.some.inj e; have h2 := hq c e2; omega)
                replace O6 := O6.later lt1 lt2 g7 (fun c e => by have := hq _ e; omega)
                replace E6 : Ext w w7 := E6.grown g7 E6.size (fun c e => by have := hq _ e; have := hEw.size; omega)
                replace S6 := Nat.le_trans S6 g7.size
                have HI8 : Cell3 cb (.string KB) (.bool no) v w7 ∧ Has w12a.heap.size m (.string AB) w7 := ⟨C6, HI7.grown g7 (fun e => by have := hq _ e; omega)⟩
                refine wpList_nil ?_
                refine ⟨(by first | exact HI8 | exact fun _ => HI8), ?_⟩
                replace HI := HI8
                obtain ⟨q6, cap6, rfl⟩ := row_shape o7
                try simp only [Act.put, List.setIfInBounds_toArray, List.set_cons_succ, List.set_cons_zero]
                refine Dm.wpF_take (i := 8) (listed' := (Dm.bits 10 511)) (fun _ _ h hx => ⟨h.1.ext hx, h.2.ext hx⟩) HI (by kernel_rfl) (by kernel_rfl) rfl (fun _ _ _ _ h => h) ?_; apply Exists.intro; refine And.intro (fun wq hwq => ?_) ?_
                · obtain ⟨⟨_, a0, a1, a2, _, _, _⟩, a3, a4⟩ := hwq; go_big_quiet_step (fail); exact wpQuiet_nil rfl
                refine Dm.wpF_one (i := 9) (listed' := (Dm.bits 10 1023)) (by kernel_rfl) (by kernel_rfl) rfl (fun wz hxz => ?_)
                obtain ⟨_, z0, z1, z2, _, _, y2⟩ := C6.ext hxz
                go_wp2_with fail
                first | refine ⟨fun h => absurd rfl h, ?_⟩ | skip
                refine Dm.wpF_done (by kernel_rfl) (fun wy hxy => ?_)
                have C8 := ((C6.ext hxz).set2 (.slice q6 ((valsTo z m).length + 1) cap6)).ext hxy
                have gS := grown_set wz cb 2 (.slice q6 ((valsTo z m).length + 1) cap6)
                have A8 : Strs wy (.slice (some ⟨w12a.heap.size, 0, none⟩) 4 4) allB := (Sl.grown (A6.ext hxz) gS (Or.inr fun c e e2 => by have h1 : w12a.heap.size = c := Option.some.inj e; have h2 : cb = c := Option.some.inj e2; omega)).ext hxy
                have O8 := ((O6.ext hxz).later lt1 lt2 gS (fun c e => by injection e with e; omega)).ext hxy
                have E8a : Ext w (wz.setCell ⟨cb, 2, none⟩ (.slice q6 ((valsTo z m).length + 1) cap6)) := (Ext.trans' E6 hxz).setCell (p := ⟨cb, 2, none⟩) (by show w.heap.size ≤ cb; have := hb.size; omega) _
                have E8 : Ext w wy := E8a.trans' hxy
                have o8 := Ext.row (grown_row (Ext.row o7 hxz) gS (fun c e => by injection e with e; omega)) hxy
                have S8 : W1.heap.size ≤ wy.heap.size := by have h1 := hxz.size; have h2 := hxy.size; rw [World.size_setCell] at h2; omega
                rw [← strs_snoc] at o8
                clear C6 A6 O6 E6 o7 S6 z0 z1 z2 y2 gS
                go_wp2
                go_roundw
                case rel => exact ⟨m + 1, .slice q6 ((valsTo z m).length + 1) cap6, by omega, by go_num, C8, (by rw [hvs.out, List.length_append]; exact o8), A8, O8, E8, S8⟩
                case measure => simp [intOf]; omega
            · obtain rfl : m = 4 := by omega
              obtain ⟨q6, cap6, rfl⟩ := row_shape hom
              have hval : Strs wr (.slice q6 (valsTo z 4).length cap6) (valsTo z 4) := Strs.of_row hom rfl
              have hvl4 := valsTo_len z 4
              have hap : Apart (.slice q6 (valsTo z 4).length cap6) u3 := fun c hc hu => by
                have h1 := (World.ownsRow.lt hom c hc).1
                have h2 := lt1 c hu
                omega
              obtain ⟨_, y0, y1, y2, _, _, _⟩ := hCm
              have hst' : Hid ((R ++ [(KB, no, Value.slice q6 (valsTo z 4).length cap6, valsTo z 4)]).map rowT = madeS zs (k + 1)) := by
                show _ = _
                rw [hst.out, hterm.out, List.map_append, hR.out]; rfl
              generalize valsTo z 4 = V4 at *
              have ha4 := (Ext.refl wr).alloc (.cells #[.string KB, .bool no, .slice q6 V4.length cap6] 57)
              have hb4 := hEm.trans ha4
              have ho4 := hOm.ext ha4
              have hv4 := hval.ext ha4
              have hl4 := Sl.lit wr 57 3 1 #[.string KB, .bool no, .slice q6 V4.length cap6] rfl (by simp [maxLen])
              clear hom hval
              go_wp2_with (at_builtin; refine wpList_appT rfl _ _ Tryd.slTerm rfl hb4 rfl ho4 (r := (KB, no, .slice q6 V4.length cap6, V4)) rfl hl4 hv4 (Or.inr hap) (by omega) ?_; intro v5 w5 ho5 hb5 _)
              go_roundw
              case rel => exact ⟨k + 1, R ++ [(KB, no, .slice q6 V4.length cap6, V4)], by omega, by omega, by go_num, hb5, ho5, hst'⟩
              case measure => simp [intOf]; omega
      · obtain rfl : k = 4 := by omega
        go_wp2
        go_ret
        exact ⟨_, R, rfl, ho.terms (by have := congrArg List.length hR.out; unfold madeS at this; rw [List.length_map, List.length_map, List.length_take] at this; omega), hR.out, hb⟩
    · have hk4 : madeS zs k = madeS zs 4 := by unfold madeS; rw [List.take_of_length_le (by omega), List.take_of_length_le (by omega)]
      have hRR : Hid (R.map rowT = madeS zs 4) := hR.out.trans hk4
      clear hk4
      go_wp2
      go_ret
      exact ⟨_, R, rfl, ho.terms (by have := congrArg List.length hR.out; unfold madeS at this; rw [List.length_map, List.length_map, List.length_take] at this; omega), hRR.out, hb⟩

end Go.Proofs.YtbkemhheombfcaaDoor
