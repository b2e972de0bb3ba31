/- Chapter 3: the walks of FormatUint at base 10, Text. -/
import Derived.Test.YtibimbcjnjefdaaDoorVcWalkA
import Derived.Test.YtibimbcjnjefdaaDoorVcBox
import Derived.Test.YtibimbcjnjefdaaDoorTexts
import Derived.Test.YtibimbcjnjefdaaDoorWTypes
import Derived.Test.YtibimbcjnjefdaaDoorShelf
import Derived.Lib.AppendIntMem
import Derived.Lib.ItoaMem
import Derived.Lib.LaidTab
namespace Go.Dm
open Go Go.RowKit
/-- The table of tens, at every world that grew. -/
def Tab10 (P : Program) (w : World) : Prop := Lib.TabIs P w "internal/strconv.uint64pow10" .u64 Lib.pow10Tab
theorem tabIs_ext {P : Program} {w w' : World} {name : String} {k : IntKind} {zs : List Int} (h : Lib.TabIs P w name k zs) (hx : Ext w w') : Lib.TabIs P w' name k zs := by
  unfold Lib.TabIs World.var? at *
  cases hg : P.globalNamed name with
  | none => simp [hg] at h
  | some g =>
    simp only [hg, Option.bind_some] at h ⊢
    have hlt : g < w.heap.size := by
      rcases Nat.lt_or_ge g w.heap.size with h' | h'
      · exact h'
      · rw [Array.getElem?_eq_none h'] at h; simp at h
    rw [hx.block g hlt]
    exact h
/-- The four numerals. -/
def numT (a : Vc) (k : Nat) : ByteArray := ⟨(Lib.decDigits (vG a k)).toArray⟩
def numsT (a : Vc) : List ByteArray := [numT a 0, numT a 1, numT a 2, numT a 3]
/-- P3.3: an amount as it is read. -/
def textV (a : Vc) : Bs := Lib.join [Lib.decDigits (vG a 0), Lib.decDigits (vG a 1), Lib.decDigits (vG a 2), Lib.decDigits (vG a 3)] [58]
theorem numsT_take (a : Vc) {k : Nat} (hk : k < 4) : (numsT a).take (k + 1) = (numsT a).take k ++ [numT a k] :=
  match k, hk with
  | 0, _ => rfl
  | 1, _ => rfl
  | 2, _ => rfl
  | 3, _ => rfl
theorem dec_le {u : Nat} (h : U64 u) : (Lib.decDigits u).length ≤ 20 := by
  rw [Lib.decDigits_length]
  by_cases h0 : u = 0
  · subst h0; rw [Lib.nDigits_small (by omega)]; omega
  · have := Lib.numDigits_eq u (by omega) h
    split at this <;> omega
theorem textV_len {a : Vc} (h : OkV a) : (textV a).length ≤ 83 := by
  have h0 := dec_le (u := vG a 0) (h.u64 0)
  have h1 := dec_le (u := vG a 1) (h.u64 1)
  have h2 := dec_le (u := vG a 2) (h.u64 2)
  have h3 := dec_le (u := vG a 3) (h.u64 3)
  unfold textV
  generalize Lib.decDigits (vG a 0) = x0 at *
  generalize Lib.decDigits (vG a 1) = x1 at *
  generalize Lib.decDigits (vG a 2) = x2 at *
  generalize Lib.decDigits (vG a 3) = x3 at *
  simp [Lib.join, List.intercalate]
  omega
end Go.Dm
namespace Go.Proofs.YtibimbcjnjefdaaDoor
open Go.RowKit Go.Dm

open Go.Sort Go.Lib in
set_option maxHeartbeats 6400000 in
set_option maxRecDepth 100000 in
theorem fmtu_w (u : Nat) (hu : U64 u) (w : World) (htab : Tab10 Tryd.prog w) :
    Calls Tryd.prog 59 #[.int .u64 (u : Nat), .int .i64 10] w fun e w' => e = .returned (.string ⟨(Lib.decDigits u).toArray⟩) ∧ Ext w w' := by
  have hu64 : u < 18446744073709551616 := hu
  by_cases hs : u < 100
  · have hlt : (u : Int) < 100 := by omega
    have hw : IntKind.i64.wrap (u : Int) = (u : Int) := by rw [IntKind.wrap_i64]; omega
    go_enter Tryd.func59, Tryd.ntmps59
    go_wp2_with fail
    refine (Tryd.internal_strconv_small u hs w).mono ?_; rintro e w' ⟨rfl, rfl⟩
    go_wp2
    go_ret
    exact ⟨rfl, Ext.refl _⟩
  · have hu1 : 1 ≤ u := by omega
    have hnd20 : Lib.nDigits u ≤ 20 := by have := Lib.numDigits_eq u hu1 hu64; split at this <;> omega
    have hal : Tryd.prog.arrayLen 95 = 24 := by kernel_rfl
    have hsl : ∀ W, (Instr.sliceAt 95 (.pointer (some ⟨w.heap.size, 0, none⟩)) none (some (.int .i64 (Lib.nDigits u : Int))) none).run Tryd.prog W = .ok (.slice (some ⟨w.heap.size, 0, none⟩) (Lib.nDigits u) 24) W := fun W => by
      rw [run_sliceAt_array_h W 95 ⟨w.heap.size, 0, none⟩ (by kernel_rfl) .i64 (Lib.nDigits u : Int) (by omega) (by rw [hal]; omega)]
      go_simp
    have hH0 := Lib.holds_zero0 w 95 (Lib.nDigits u) (by omega)
    have hfmt := Tryd.internal_strconv_formatBase10 w.heap.size 0 24 u (Array.replicate (Lib.nDigits u) 0) (w.alloc (.cells Lib.zeros24 95)) hH0 (by rw [Array.size_replicate]; exact Lib.lt_pow_nDigits u) hu64 (by rw [Array.size_replicate]; omega)
    rw [Array.size_replicate] at hfmt
    have HH0 := Lib.hid hH0
    have hlt : ¬ ((u : Int) < 100) := by omega
    clear hH0 hal
    go_enter Tryd.func59, Tryd.ntmps59
    go_wp2_with fail
    refine (Tryd.internal_strconv_numDigits u hu1 hu64 _ (Lib.tabIs_alloc htab _)).mono ?_; rintro e w' ⟨rfl, rfl⟩
    go_wp2_with fail
    refine hfmt.mono ?_
    rintro e w' ⟨rfl, k, v', dk, rfl, hF⟩
    have hcv : (convert 76 9 (.slice (some ⟨w.heap.size, 0, none⟩) (Lib.nDigits u) 24)).run Tryd.prog ((putRow (fun (b : UInt8) => Value.int .u8 (b.toNat : Int)) (w.alloc (.cells Lib.zeros24 95)) w.heap.size 0 dk).drewN k) = .ok (.string ⟨(Lib.decDigits u).toArray⟩) ((putRow (fun (b : UInt8) => Value.int .u8 (b.toNat : Int)) (w.alloc (.cells Lib.zeros24 95)) w.heap.size 0 dk).drewN k) := by
      have h := run_convert_bytes_back (P := Tryd.prog) ((putRow (fun (b : UInt8) => Value.int .u8 (b.toNat : Int)) (w.alloc (.cells Lib.zeros24 95)) w.heap.size 0 dk).drewN k) 76 9 5 ⟨w.heap.size, 0, none⟩ 24 (Lib.decDigits u) Tryd.underlying76 Tryd.underlying5 Tryd.underlying9 (fun j hj => by
        rw [Lib.row_is_numeral hF j hj, Lib.add_plain, World.cell?_drewN]
        exact cell?_putRow (fun (b : UInt8) => Value.int .u8 (b.toNat : Int)) _ w.heap.size 0 _ dk HH0.out (by rw [hF.size, Array.size_replicate]) j (by rw [hF.size]; rw [Lib.decDigits_length] at hj; exact hj))
      rw [Lib.decDigits_length] at h
      exact h
    go_wp2
    go_ret
    obtain ⟨os, eo⟩ := Lib.fin_at w (.cells Lib.zeros24 95) dk k 0
    refine ⟨rfl, ?_⟩
    rw [eo]
    exact Lib.below_grow w.heap.size w (Nat.le_refl _) k os

theorem sfmtu_w (u : Nat) (hu : U64 u) (w : World) (htab : Tab10 Tryd.prog w) :
    Calls Tryd.prog 48 #[.int .u64 (u : Nat), .int .i64 10] w fun e w' => e = .returned (.string ⟨(Lib.decDigits u).toArray⟩) ∧ Ext w w' := by
  have C := fmtu_w u hu w htab
  replace C := Lib.hid C
  go_enter Tryd.func48, Tryd.ntmps48
  go_wp2_with fail
  refine C.out.mono ?_; rintro e w1 ⟨rfl, h1⟩
  go_wp2
  go_ret
  exact ⟨rfl, h1⟩

set_option maxHeartbeats 2000000 in
set_option maxRecDepth 100000 in
theorem vtext_w (a : Vc) (ha : OkV a) (w : World) (htab : Tab10 Tryd.prog w) :
    Calls Tryd.prog 30 #[vVal a] w fun e w' => e = .returned (.string ⟨(textV a).toArray⟩) ∧ Ext w w' := by
  have hlen := textV_len ha
  have hst := fun k (hk : k < 4) => numsT_take a hk
  have CU := fun (k : Nat) (U : World) (h : Ext w U) => sfmtu_w (vG a k) (ha.u64 k) U (tabIs_ext htab h)
  change ∀ (k : Nat) (U : World), Ext w U → Calls _ _ _ U fun e w' => e = .returned (.string (numT a k)) ∧ Ext U w' at CU
  have hj : Lib.join ((numsT a).map (·.data.toList)) [58] = textV a := rfl
  have hN4 : (numsT a).length = 4 := rfl
  unfold vVal
  generalize textV a = tx at *
  generalize numsT a = nt at *
  generalize numT a = nu at *
  generalize vG a = A at *
  unfold vF
  replace hst := Lib.hid hst
  replace CU := Lib.hid CU
  replace hj := Lib.hid hj
  go_enter Tryd.func30, Tryd.ntmps30
  go_wp2
  go_loopw [3, 7] (fun l i wr => ∃ k : Nat, k ≤ 4 ∧ i = .int .i64 k ∧ Ext w wr ∧ wr.ownsRow w.heap.size 9 1 l k ((nt.take k).map .string)) (fun _ i _ => 4 - (intOf i).toNat)
  case atStart => exact ⟨0, by omega, rfl, (Ext.refl _).alloc _, by simpa using World.ownsRow_nil _ _ _ _⟩
  case round =>
    obtain ⟨k, hk, rfl, hb, ho⟩ := hrel
    by_cases hlt : k < 4
    · have hix := fun w => idxVec A hlt w
      have C := fun U h => CU.out k U h
      have hs := hst.out k hlt
      replace hs := Lib.hid hs
      replace C := Lib.hid C
      go_wp2_with fail
      refine (C.out wr hb).mono ?_; rintro e w2 ⟨rfl, h2⟩
      have hb2 := hb.trans h2
      have ho2 := Ext.row ho h2
      have hl := Sl.lit w2 9 1 1 #[.string (nu k)] rfl (by simp [maxLen])
      go_wp2_with (at_builtin; refine wpList_appE rfl _ _ Tryd.slStr rfl (hb2.trans ((Ext.refl _).alloc _)) rfl (Ext.row ho2 ((Ext.refl _).alloc _)) rfl hl (by simp [Value.oneCell']) (by omega) ?_; intro v5 w5 ho5 hb5 _)
      exact ⟨⟨k + 1, by omega, by go_num, hb5, by rw [hs.out, List.map_append]; exact ho5⟩, by simp [intOf]; omega⟩
    · obtain rfl : k = 4 := by omega
      have ho4 : wr.ownsRow w.heap.size 9 1 u3 4 (nt.map .string) := by rw [List.take_of_length_le (by omega)] at ho; exact ho
      have hS := Strs.of_row ho4 hN4.symm
      obtain ⟨p3, cap3, rfl, hc3, _⟩ := hS.shape
      obtain ⟨bk, off, rfl, hbk, hcs⟩ := Sl.at hS (by omega)
      have CJ := Tryd.strings_Join bk off cap3 nt ⟨#[58]⟩ wr (fun j x hx => hcs j (.string x) (by simp [hx])) hbk (by omega) hc3 (by show (Lib.join (nt.map (·.data.toList)) [58]).length ≤ _; rw [hj.out]; omega)
      change Calls _ _ _ _ fun e w' => e = .returned (.string ⟨(Lib.join (nt.map (·.data.toList)) [58]).toArray⟩) ∧ Ext wr w' at CJ
      rw [hj.out, hN4] at CJ
      rw [hN4]
      clear hcs ho ho4 hS
      replace CJ := Lib.hid CJ
      go_wp2_with fail
      refine CJ.out.mono ?_; rintro e w5 ⟨rfl, h5⟩
      go_wp2
      go_ret
      exact ⟨rfl, hb.trans h5⟩

end Go.Proofs.YtibimbcjnjefdaaDoor
