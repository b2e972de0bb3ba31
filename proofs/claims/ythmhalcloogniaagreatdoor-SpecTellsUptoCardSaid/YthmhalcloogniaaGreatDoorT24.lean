/- Texts one behind the other: Chapter 3: the walks of FormatUint at base 10, Text; Chapter 3: what Parse finds in a text, in plain terms; Chapter 3: what the document's Number and Parse find, in plain terms; Chapter 3: the walk of Parse; Chapter 3: the walks of the document's Digits, Number; Chapter 3: the walks of refV, and of the document's Fits, Put, Text, Get. -/
import Derived.Test.YthmhalcloogniaaGreatDoorT17
import Derived.Test.YthmhalcloogniaaGreatDoorT12
import Derived.Test.YthmhalcloogniaaGreatDoorT4
import Derived.Test.YthmhalcloogniaaGreatDoorShelf
import Derived.Lib.AppendIntMem
import Derived.Lib.ItoaMem
import Derived.Lib.LaidTab
import Derived.Lib.ParseIntBCases
import Derived.Lib.AtoiErrMem
import Derived.Test.YthmhalcloogniaaGreatDoorT19
import Derived.Test.YthmhalcloogniaaGreatDoorT18
import Derived.Test.YthmhalcloogniaaGreatDoorT22
namespace Go.Dm
open Go Go.RowKit
/-- The table of tens, at every world that grew. -/
def Tab10 (P : Program) (w : World) : Prop := Lib.TabIs P w "internal/strconv.uint64pow10" .u64 Lib.pow10Tab
theorem tabIs_ext {P : Program} {w w' : World} {name : String} {k : IntKind} {zs : List Int} (h : Lib.TabIs P w name k zs) (hx : Ext w w') : Lib.TabIs P w' name k zs := by
  unfold Lib.TabIs World.var? at *
  cases hg : P.globalNamed name with
  | none => simp [hg] at h
  | some g =>
    simp only [hg, Option.bind_some] at h ⊢
    have hlt : g < w.heap.size := by
      rcases Nat.lt_or_ge g w.heap.size with h' | h'
      · exact h'
      · rw [Array.getElem?_eq_none h'] at h; simp at h
    rw [hx.block g hlt]
    exact h
/-- The four numerals. -/
def decT (a : Vc) (k : Nat) : ByteArray := ⟨(Lib.decDigits (vG a k)).toArray⟩
def decsT (a : Vc) : List ByteArray := [decT a 0, decT a 1, decT a 2, decT a 3]
/-- P3.3: an amount as it is read. -/
def textV (a : Vc) : Bs := Lib.join [Lib.decDigits (vG a 0), Lib.decDigits (vG a 1), Lib.decDigits (vG a 2), Lib.decDigits (vG a 3)] [58]
theorem decsT_take (a : Vc) {k : Nat} (hk : k < 4) : (decsT a).take (k + 1) = (decsT a).take k ++ [decT a k] :=
  match k, hk with
  | 0, _ => rfl
  | 1, _ => rfl
  | 2, _ => rfl
  | 3, _ => rfl
theorem dec_le {u : Nat} (h : U64 u) : (Lib.decDigits u).length ≤ 20 := by
  rw [Lib.decDigits_length]
  by_cases h0 : u = 0
  · subst h0; rw [Lib.nDigits_small (by omega)]; omega
  · have := Lib.numDigits_eq u (by omega) h
    split at this <;> omega
theorem textV_len {a : Vc} (h : OkV a) : (textV a).length ≤ 83 := by
  have h0 := dec_le (u := vG a 0) (h.u64 0)
  have h1 := dec_le (u := vG a 1) (h.u64 1)
  have h2 := dec_le (u := vG a 2) (h.u64 2)
  have h3 := dec_le (u := vG a 3) (h.u64 3)
  unfold textV
  generalize Lib.decDigits (vG a 0) = x0 at *
  generalize Lib.decDigits (vG a 1) = x1 at *
  generalize Lib.decDigits (vG a 2) = x2 at *
  generalize Lib.decDigits (vG a 3) = x3 at *
  simp [Lib.join, List.intercalate]
  omega
end Go.Dm
namespace Go.Proofs.YthmhalcloogniaaGreatDoor
open Go.RowKit Go.Dm

open Go.Sort Go.Lib in
set_option maxHeartbeats 6400000 in
set_option maxRecDepth 100000 in
theorem fmtu_w (u : Nat) (hu : U64 u) (w : World) (htab : Tab10 Tryz.prog w) :
    Calls Tryz.prog 126 #[.int .u64 (u : Nat), .int .i64 10] w fun e w' => e = .returned (.string ⟨(Lib.decDigits u).toArray⟩) ∧ Ext w w' := by
  have hu64 : u < 18446744073709551616 := hu
  by_cases hs : u < 100
  · have hlt : (u : Int) < 100 := by omega
    have hw : IntKind.i64.wrap (u : Int) = (u : Int) := by rw [IntKind.wrap_i64]; omega
    go_enter Tryz.func126, Tryz.ntmps126
    go_wp2_with fail
    refine (Tryz.internal_strconv_small u hs w).mono ?_; rintro e w' ⟨rfl, rfl⟩
    go_wp2
    go_ret
    exact ⟨rfl, Ext.refl _⟩
  · have hu1 : 1 ≤ u := by omega
    have hnd20 : Lib.nDigits u ≤ 20 := by have := Lib.numDigits_eq u hu1 hu64; split at this <;> omega
    have hal : Tryz.prog.arrayLen 187 = 24 := by kernel_rfl
    have hsl : ∀ W, (Instr.sliceAt 187 (.pointer (some ⟨w.heap.size, 0, none⟩)) none (some (.int .i64 (Lib.nDigits u : Int))) none).run Tryz.prog W = .ok (.slice (some ⟨w.heap.size, 0, none⟩) (Lib.nDigits u) 24) W := fun W => by
      rw [run_sliceAt_array_h W 187 ⟨w.heap.size, 0, none⟩ (by kernel_rfl) .i64 (Lib.nDigits u : Int) (by omega) (by rw [hal]; omega)]
      go_simp
    have hH0 := Lib.holds_zero0 w 187 (Lib.nDigits u) (by omega)
    have hfmt := Tryz.internal_strconv_formatBase10 w.heap.size 0 24 u (Array.replicate (Lib.nDigits u) 0) (w.alloc (.cells Lib.zeros24 187)) hH0 (by rw [Array.size_replicate]; exact Lib.lt_pow_nDigits u) hu64 (by rw [Array.size_replicate]; omega)
    rw [Array.size_replicate] at hfmt
    have HH0 := Lib.hid hH0
    have hlt : ¬ ((u : Int) < 100) := by omega
    clear hH0 hal
    go_enter Tryz.func126, Tryz.ntmps126
    go_wp2_with fail
    refine (Tryz.internal_strconv_numDigits u hu1 hu64 _ (Lib.tabIs_alloc htab _)).mono ?_; rintro e w' ⟨rfl, rfl⟩
    go_wp2_with fail
    refine hfmt.mono ?_
    rintro e w' ⟨rfl, k, v', dk, rfl, hF⟩
    have hcv : (convert 56 9 (.slice (some ⟨w.heap.size, 0, none⟩) (Lib.nDigits u) 24)).run Tryz.prog ((putRow (fun (b : UInt8) => Value.int .u8 (b.toNat : Int)) (w.alloc (.cells Lib.zeros24 187)) w.heap.size 0 dk).drewN k) = .ok (.string ⟨(Lib.decDigits u).toArray⟩) ((putRow (fun (b : UInt8) => Value.int .u8 (b.toNat : Int)) (w.alloc (.cells Lib.zeros24 187)) w.heap.size 0 dk).drewN k) := by
      have h := run_convert_bytes_back (P := Tryz.prog) ((putRow (fun (b : UInt8) => Value.int .u8 (b.toNat : Int)) (w.alloc (.cells Lib.zeros24 187)) w.heap.size 0 dk).drewN k) 56 9 5 ⟨w.heap.size, 0, none⟩ 24 (Lib.decDigits u) Tryz.underlying56 Tryz.underlying5 Tryz.underlying9 (fun j hj => by
        rw [Lib.row_is_numeral hF j hj, Lib.add_plain, World.cell?_drewN]
        exact cell?_putRow (fun (b : UInt8) => Value.int .u8 (b.toNat : Int)) _ w.heap.size 0 _ dk HH0.out (by rw [hF.size, Array.size_replicate]) j (by rw [hF.size]; rw [Lib.decDigits_length] at hj; exact hj))
      rw [Lib.decDigits_length] at h
      exact h
    go_wp2
    go_ret
    obtain ⟨os, eo⟩ := Lib.fin_at w (.cells Lib.zeros24 187) dk k 0
    refine ⟨rfl, ?_⟩
    rw [eo]
    exact Lib.below_grow w.heap.size w (Nat.le_refl _) k os

theorem sfmtu_w (u : Nat) (hu : U64 u) (w : World) (htab : Tab10 Tryz.prog w) :
    Calls Tryz.prog 97 #[.int .u64 (u : Nat), .int .i64 10] w fun e w' => e = .returned (.string ⟨(Lib.decDigits u).toArray⟩) ∧ Ext w w' := by
  have C := fmtu_w u hu w htab
  replace C := Lib.hid C
  go_enter Tryz.func97, Tryz.ntmps97
  go_wp2_with fail
  refine C.out.mono ?_; rintro e w1 ⟨rfl, h1⟩
  go_wp2
  go_ret
  exact ⟨rfl, h1⟩

set_option maxHeartbeats 2000000 in
set_option maxRecDepth 100000 in
theorem vtext_w (a : Vc) (ha : OkV a) (w : World) (htab : Tab10 Tryz.prog w) :
    Calls Tryz.prog 63 #[vVal a] w fun e w' => e = .returned (.string ⟨(textV a).toArray⟩) ∧ Ext w w' := by
  have hlen := textV_len ha
  have hst := fun k (hk : k < 4) => decsT_take a hk
  have CU := fun (k : Nat) (U : World) (h : Ext w U) => sfmtu_w (vG a k) (ha.u64 k) U (tabIs_ext htab h)
  change ∀ (k : Nat) (U : World), Ext w U → Calls _ _ _ U fun e w' => e = .returned (.string (decT a k)) ∧ Ext U w' at CU
  have hj : Lib.join ((decsT a).map (·.data.toList)) [58] = textV a := rfl
  have hN4 : (decsT a).length = 4 := rfl
  unfold vVal
  generalize textV a = tx at *
  generalize decsT a = nt at *
  generalize decT a = nu at *
  generalize vG a = A at *
  unfold vF
  replace hst := Lib.hid hst
  replace CU := Lib.hid CU
  replace hj := Lib.hid hj
  go_enter Tryz.func63, Tryz.ntmps63
  go_wp2
  go_loopw [3, 7] (fun l i wr => ∃ k : Nat, k ≤ 4 ∧ i = .int .i64 k ∧ Ext w wr ∧ wr.ownsRow w.heap.size 9 1 l k ((nt.take k).map .string)) (fun _ i _ => 4 - (intOf i).toNat)
  case atStart => exact ⟨0, by omega, rfl, (Ext.refl _).alloc _, by simpa using World.ownsRow_nil _ _ _ _⟩
  case round =>
    obtain ⟨k, hk, rfl, hb, ho⟩ := hrel
    by_cases hlt : k < 4
    · have hix := fun w => idxVec A hlt w
      have C := fun U h => CU.out k U h
      have hs := hst.out k hlt
      replace hs := Lib.hid hs
      replace C := Lib.hid C
      go_wp2_with fail
      refine (C.out wr hb).mono ?_; rintro e w2 ⟨rfl, h2⟩
      have hb2 := hb.trans h2
      have ho2 := Ext.row ho h2
      have hl := Sl.lit w2 9 1 1 #[.string (nu k)] rfl (by simp [maxLen])
      go_wp2_with (at_builtin; refine wpList_appE rfl _ _ Tryz.slStr rfl (hb2.trans ((Ext.refl _).alloc _)) rfl (Ext.row ho2 ((Ext.refl _).alloc _)) rfl hl (by simp [Value.oneCell']) (by omega) ?_; intro v5 w5 ho5 hb5 _)
      exact ⟨⟨k + 1, by omega, by go_num, hb5, by rw [hs.out, List.map_append]; exact ho5⟩, by simp [intOf]; omega⟩
    · obtain rfl : k = 4 := by omega
      have ho4 : wr.ownsRow w.heap.size 9 1 u3 4 (nt.map .string) := by rw [List.take_of_length_le (by omega)] at ho; exact ho
      have hS := Strs.of_row ho4 hN4.symm
      obtain ⟨p3, cap3, rfl, hc3, _⟩ := hS.shape
      obtain ⟨bk, off, rfl, hbk, hcs⟩ := Sl.at hS (by omega)
      have CJ := Tryz.strings_Join bk off cap3 nt ⟨#[58]⟩ wr (fun j x hx => hcs j (.string x) (by simp [hx])) hbk (by omega) hc3 (by show (Lib.join (nt.map (·.data.toList)) [58]).length ≤ _; rw [hj.out]; omega)
      change Calls _ _ _ _ fun e w' => e = .returned (.string ⟨(Lib.join (nt.map (·.data.toList)) [58]).toArray⟩) ∧ Ext wr w' at CJ
      rw [hj.out, hN4] at CJ
      rw [hN4]
      clear hcs ho ho4 hS
      replace CJ := Lib.hid CJ
      go_wp2_with fail
      refine CJ.out.mono ?_; rintro e w5 ⟨rfl, h5⟩
      go_wp2
      go_ret
      exact ⟨rfl, hb.trans h5⟩

end Go.Proofs.YthmhalcloogniaaGreatDoor

namespace Go.Dm
open Go Go.RowKit

theorem dec_digit {u : Nat} : ∀ b ∈ Lib.decDigits u, 48 ≤ b.toNat ∧ b.toNat ≤ 57 := by
  induction u using Nat.strongRecOn with
  | _ u ih =>
    intro b hb
    unfold Lib.decDigits at hb
    split at hb
    · rename_i h
      rw [List.mem_singleton.1 hb, UInt8.toNat_ofNat_of_lt' (by show 48 + u < 256; omega)]
      omega
    · rename_i h
      rcases List.mem_append.1 hb with hb | hb
      · exact ih (u / 10) (by omega) b hb
      · rw [List.mem_singleton.1 hb, UInt8.toNat_ofNat_of_lt' (by show 48 + u % 10 < 256; omega)]
        omega
theorem dec_no58 {u : Nat} : (58 : UInt8) ∉ Lib.decDigits u := fun h => by
  have := dec_digit _ h
  have e : (58 : UInt8).toNat = 58 := rfl
  omega
theorem dec_ne {u : Nat} : Lib.decDigits u ≠ [] := by
  unfold Lib.decDigits
  split
  · simp
  · simp
theorem parseM_snoc (M : Nat) (c : UInt8) : ∀ (l : Bs) (acc : Nat), Lib.parseUintM M acc (l ++ [c]) = match Lib.parseUintM M acc l with
    | .ok v => Lib.parseUintM M v [c]
    | .syntax => .syntax
    | .range => .range
  | [], acc => by simp [Lib.parseUintM]
  | x :: l, acc => by
    rw [List.cons_append]
    unfold Lib.parseUintM
    split
    · split
      · rfl
      · split
        · rfl
        · exact parseM_snoc M c l _
    · rfl
theorem parse_dec {u : Nat} (h : U64 u) : Lib.parseUintM 18446744073709551615 0 (Lib.decDigits u) = .ok u := by
  have h64 : u < 18446744073709551616 := h
  clear h
  induction u using Nat.strongRecOn with
  | _ u ih =>
    unfold Lib.decDigits
    split
    · rename_i h
      have e : (UInt8.ofNat (48 + u)).toNat = 48 + u := UInt8.toNat_ofNat_of_lt' (by show 48 + u < 256; omega)
      simp only [Lib.parseUintM, e]
      rw [if_pos (by omega), if_neg (by omega), if_neg (by omega)]
      congr 1
      omega
    · rename_i h
      have e : (UInt8.ofNat (48 + u % 10)).toNat = 48 + u % 10 := UInt8.toNat_ofNat_of_lt' (by show 48 + u % 10 < 256; omega)
      rw [parseM_snoc, ih (u / 10) (by omega) (by omega)]
      simp only [Lib.parseUintM, e]
      rw [if_pos (by omega), if_neg (by omega), if_neg (by omega)]
      congr 1
      omega
/-- The number of a piece. -/
def valP (p : Bs) : Nat := match Lib.parseUintB 64 p with
  | .ok u => u
  | .syntax => 0
  | .range => 18446744073709551615
theorem valP_dec {u : Nat} (h : U64 u) : valP (Lib.decDigits u) = u := by
  unfold valP Lib.parseUintB
  rw [if_neg dec_ne, show (2 ^ 64 - 1 : Nat) = 18446744073709551615 from rfl, parse_dec h]
theorem valP_u64 (p : Bs) : U64 (valP p) := by
  unfold valP U64
  cases h : Lib.parseUintB 64 p with
  | ok u =>
    unfold Lib.parseUintB at h
    split at h
    · cases h
    · have := Lib.parseUintM_le _ p 0 u (by omega) h
      show u < _
      omega
  | «syntax» => show 0 < _; omega
  | range => show 18446744073709551615 < _; omega
def pieceV (ps : List Bs) (k : Nat) : Nat := if k < ps.length then valP (ps.getD k []) else 0
def parseA (ps : List Bs) : Vc := [pieceV ps 0, pieceV ps 1, pieceV ps 2, pieceV ps 3]
theorem pieceV_u64 (ps : List Bs) (k : Nat) : U64 (pieceV ps k) := by
  unfold pieceV
  split
  · exact valP_u64 _
  · unfold U64; omega
theorem parseA_ok (ps : List Bs) : OkV (parseA ps) := okV_mk (pieceV_u64 _ _) (pieceV_u64 _ _) (pieceV_u64 _ _) (pieceV_u64 _ _)
/-- P3.3: the amount of a text. -/
def parseV (t : Bs) : Vc × Bool := if textV (parseA (splitC 58 t)) = t then (parseA (splitC 58 t), true) else (noV, false)
theorem splitC_text (a : Vc) : splitC 58 (textV a) = [Lib.decDigits (vG a 0), Lib.decDigits (vG a 1), Lib.decDigits (vG a 2), Lib.decDigits (vG a 3)] := by
  unfold textV
  refine splitC_join (by simp) fun p hp => ?_
  simp only [List.mem_cons, List.not_mem_nil, or_false] at hp
  rcases hp with rfl | rfl | rfl | rfl <;> exact dec_no58
theorem parseA_text {a : Vc} (h : OkV a) : parseA (splitC 58 (textV a)) = a := by
  rw [splitC_text]
  obtain ⟨x, y, z, u, rfl, hx, hy, hz, hu⟩ := h.ex
  show [valP (Lib.decDigits x), valP (Lib.decDigits y), valP (Lib.decDigits z), valP (Lib.decDigits u)] = _
  rw [valP_dec hx, valP_dec hy, valP_dec hz, valP_dec hu]
theorem parseV_text {a : Vc} (h : OkV a) : parseV (textV a) = (a, true) := by
  unfold parseV
  rw [parseA_text h, if_pos rfl]
theorem parseV_yes {t : Bs} {a : Vc} (h : parseV t = (a, true)) : textV a = t ∧ OkV a := by
  unfold parseV at h
  split at h
  · rename_i e
    simp at h
    rw [← h]
    exact ⟨e, parseA_ok _⟩
  · simp at h
theorem parseV_no {t : Bs} {a : Vc} (h : parseV t = (a, false)) : a = noV ∧ ∀ b, OkV b → textV b ≠ t := by
  unfold parseV at h
  split at h
  · simp at h
  · rename_i e
    simp at h
    refine ⟨h.symm, fun b hb he => e ?_⟩
    rw [← he, parseA_text hb]
end Go.Dm

namespace Go.Dm
open Go Go.RowKit

/-- The number that digits make, as it wraps. -/
def foldD (acc : Nat) (l : Bs) : Nat := l.foldl (fun a b => (a * 10 + (b.toNat - 48)) % 18446744073709551616) acc
theorem foldD_snoc (acc : Nat) (l : Bs) (b : UInt8) : foldD acc (l ++ [b]) = (foldD acc l * 10 + (b.toNat - 48)) % 18446744073709551616 := by
  unfold foldD; rw [List.foldl_append]; rfl
theorem foldD_u64 {acc : Nat} (h : U64 acc) (l : Bs) : U64 (foldD acc l) := by
  rcases List.eq_nil_or_concat l with rfl | ⟨l, b, rfl⟩
  · exact h
  · rw [List.concat_eq_append, foldD_snoc]; exact Nat.mod_lt _ (by omega)
theorem foldD_dec {u : Nat} : foldD 0 (Lib.decDigits u) = u % 18446744073709551616 := by
  induction u using Nat.strongRecOn with
  | _ u ih =>
    unfold Lib.decDigits
    split
    · rename_i h
      have e : (UInt8.ofNat (48 + u)).toNat = 48 + u := UInt8.toNat_ofNat_of_lt' (by show 48 + u < 256; omega)
      simp only [foldD, List.foldl, e]
      congr 1
      omega
    · rename_i h
      have e : (UInt8.ofNat (48 + u % 10)).toNat = 48 + u % 10 := UInt8.toNat_ofNat_of_lt' (by show 48 + u % 10 < 256; omega)
      rw [foldD_snoc, ih (u / 10) (by omega), e]
      omega
/-- The number whose digits these are. -/
def numV (s : Bs) : Nat × Bool := if Lib.decDigits (foldD 0 s) = s then (foldD 0 s, true) else (0, false)
theorem numV_dec {u : Nat} (h : U64 u) : numV (Lib.decDigits u) = (u, true) := by
  have h' : u < 18446744073709551616 := h
  unfold numV
  rw [foldD_dec, Nat.mod_eq_of_lt h', if_pos rfl]
theorem numV_yes {s : Bs} (h : (numV s).2 = true) : Lib.decDigits (numV s).1 = s ∧ U64 (numV s).1 := by
  unfold numV at h ⊢
  split
  · rename_i e; exact ⟨e, foldD_u64 (by unfold U64; omega) _⟩
  · rename_i e; rw [if_neg e] at h; cases h
theorem numV_bad {s : Bs} (h : ∀ u, U64 u → Lib.decDigits u ≠ s) : numV s = (0, false) := by
  unfold numV
  rw [if_neg (h _ (foldD_u64 (by unfold U64; omega) _))]
theorem numV_nil : numV [] = (0, false) := numV_bad fun _ _ => dec_ne
theorem numV_long {s : Bs} (h : 20 < s.length) : numV s = (0, false) := numV_bad fun u hu e => by
  have := dec_le hu
  rw [e] at this
  omega
theorem numV_odd {s : Bs} {b : UInt8} (hb : b ∈ s) (h : b.toNat < 48 ∨ 57 < b.toNat) : numV s = (0, false) := numV_bad fun u _ e => by
  rw [← e] at hb
  have := dec_digit b hb
  omega

/-- The document's Parse: pieces one by one. -/
def scanP : Bs → Bs → List Nat → Option (List Nat)
  | [], cur, ns => if (numV cur).2 = true ∧ ns.length < 4 then (if ns.length = 3 then some (ns ++ [(numV cur).1]) else none) else none
  | b :: l, cur, ns => if b = 58 then (if (numV cur).2 = true ∧ ns.length < 4 then scanP l [] (ns ++ [(numV cur).1]) else none) else scanP l (cur ++ [b]) ns
/-- Numerals, two dots between. -/
def joinD : List Nat → Bs
  | [] => []
  | [m] => Lib.decDigits m
  | m :: k :: ms => Lib.decDigits m ++ 58 :: joinD (k :: ms)
theorem joinD_text (a : Vc) (h : a.length = 4) : joinD a = textV a := by
  match a, h with
  | [x, y, z, u], _ => simp [joinD, textV, vG, Lib.join, List.intercalate]
theorem cut58 : ∀ {x x' r r' : Bs}, (58 : UInt8) ∉ x → (58 : UInt8) ∉ x' → x ++ 58 :: r = x' ++ 58 :: r' → x = x' ∧ r = r'
  | [], [], _, _, _, _, h => ⟨rfl, by simpa using h⟩
  | [], b :: x', _, _, _, h2, h => by simp at h; exact absurd h.1 (by intro e; exact h2 (by simp [e]))
  | b :: x, [], _, _, h1, _, h => by simp at h; exact absurd h.1 (by intro e; exact h1 (by simp [e]))
  | b :: x, c :: x', r, r', h1, h2, h => by
    simp at h
    obtain ⟨rfl, h⟩ := h
    obtain ⟨rfl, rfl⟩ := cut58 (fun e => h1 (by simp [e])) (fun e => h2 (by simp [e])) h
    exact ⟨rfl, rfl⟩
theorem joinD_ne {m : Nat} {ms : List Nat} (h : ms ≠ []) : joinD (m :: ms) = Lib.decDigits m ++ 58 :: joinD ms := by
  match ms, h with
  | k :: ms, _ => rfl
theorem scanP_yes : ∀ {l cur : Bs} {ns r : List Nat}, scanP l cur ns = some r → r.length = 4 ∧ ∃ ms, ms ≠ [] ∧ r = ns ++ ms ∧ (∀ m ∈ ms, U64 m) ∧ cur ++ l = joinD ms
  | [], cur, ns, r, h => by
    unfold scanP at h
    split at h
    · rename_i hn
      split at h
      · rename_i h3
        obtain ⟨h1, h2⟩ := numV_yes hn.1
        injection h with h
        subst h
        refine ⟨by simp [h3], [(numV cur).1], by simp, rfl, by simpa using h2, ?_⟩
        rw [List.append_nil]
        exact h1.symm
      · cases h
    · cases h
  | b :: l, cur, ns, r, h => by
    unfold scanP at h
    split at h
    · rename_i hb
      subst hb
      split at h
      · rename_i hn
        obtain ⟨h1, h2⟩ := numV_yes hn.1
        obtain ⟨hl, ms, hne, rfl, hms, he⟩ := scanP_yes h
        refine ⟨hl, (numV cur).1 :: ms, by simp, by simp, ?_, ?_⟩
        · intro m hm
          rcases List.mem_cons.1 hm with rfl | hm
          · exact h2
          · exact hms m hm
        · rw [joinD_ne hne, ← he, h1]
          simp
      · cases h
    · obtain ⟨hl, ms, hne, rfl, hms, he⟩ := scanP_yes h
      exact ⟨hl, ms, hne, rfl, hms, by rw [← he]; simp⟩
theorem scanP_made : ∀ {l cur : Bs} {ns ms : List Nat}, ms ≠ [] → (∀ m ∈ ms, U64 m) → (58 : UInt8) ∉ cur → cur ++ l = joinD ms → (ns ++ ms).length = 4 → scanP l cur ns = some (ns ++ ms)
  | [], cur, ns, ms, hne, hms, hc, he, hl => by
    rw [List.append_nil] at he
    match ms, hne with
    | [m], _ =>
      subst he
      have hn := numV_dec (hms m (by simp))
      simp only [joinD]
      unfold scanP
      rw [hn]
      simp at hl
      rw [if_pos ⟨rfl, by omega⟩, if_pos (by omega)]
    | m :: k :: ms, _ => exact absurd (by rw [he]; simp [joinD]) hc
  | b :: l, cur, ns, ms, hne, hms, hc, he, hl => by
    unfold scanP
    split
    · rename_i hb
      subst hb
      match ms, hne with
      | [m], _ =>
        exfalso
        have : (58 : UInt8) ∈ joinD [m] := by rw [← he]; simp
        exact dec_no58 this
      | m :: k :: ms, _ =>
        rw [joinD_ne (by simp)] at he
        obtain ⟨rfl, rfl⟩ := cut58 hc dec_no58 he
        have hn := numV_dec (hms m (by simp))
        rw [hn, if_pos ⟨rfl, by simp at hl; omega⟩]
        have := scanP_made (l := joinD (k :: ms)) (cur := []) (ns := ns ++ [m]) (ms := k :: ms) (by simp) (fun x hx => hms x (List.mem_cons_of_mem _ hx)) (by simp) (by simp) (by simp at hl ⊢; omega)
        rw [this]
        simp
    · rename_i hb
      refine scanP_made hne hms (fun h => ?_) (by rw [← he]; simp) hl
      rcases List.mem_append.1 h with h | h
      · exact hc h
      · exact hb (List.mem_singleton.1 h).symm
/-- What the document's Parse finds is what the program's does. -/
theorem scanP_parse (t : Bs) : parseV t = match scanP t [] [] with
    | some a => (a, true)
    | none => (noV, false) := by
  cases h : scanP t [] [] with
  | some a =>
    obtain ⟨hl, ms, hne, hr, hms, he⟩ := scanP_yes h
    rw [List.nil_append] at hr he
    rw [← hr] at he hms
    rw [joinD_text a hl] at he
    rw [he]
    refine parseV_text ⟨hl, fun k => ?_⟩
    rw [List.getD_eq_getElem?_getD]
    cases e : a[k]? with
    | none => show (0 : Nat) < _; omega
    | some x => exact hms x (List.mem_of_getElem? e)
  | none =>
    cases e : parseV t with
    | mk a b =>
      cases b with
      | true =>
        obtain ⟨h1, h2⟩ := parseV_yes e
        have := scanP_made (l := t) (cur := []) (ns := []) (ms := a) (by intro e; have := h2.len; rw [e] at this; cases this) (fun m hm => by
          obtain ⟨x, y, z, u, rfl, g1, g2, g3, g4⟩ := h2.ex
          simp at hm
          rcases hm with rfl | rfl | rfl | rfl <;> assumption) (by simp) (by rw [List.nil_append, joinD_text a h2.len, h1]) (by simpa using h2.len)
        rw [h] at this
        cases this
      | false => rw [(parseV_no e).1]
end Go.Dm

namespace Go.Dm
open Go Go.RowKit
theorem bytesOf_at {l : List ByteArray} {k : Nat} (h : k < l.length) : (bytesOf l).getD k [] = (strAt l k).data.toList := by
  simp [bytesOf, strAt, h]
theorem sl_away {w : World} {sz b off n m cap c i : Nat} {cs : List Value} (h : Sl w sz (.slice (some ⟨b, off, none⟩) m cap) n cs) (hc : c ≠ b) (u : Value) : Sl (w.setCell ⟨c, i, none⟩ u) sz (.slice (some ⟨b, off, none⟩) m cap) n cs := by
  obtain ⟨hl, p, cap', hv, hn, hm, hz, h⟩ := h
  refine ⟨hl, p, cap', hv, hn, hm, hz, ?_⟩
  rcases h with h | ⟨b', off', hp, hlt, h⟩
  · exact Or.inl h
  · injection hv with e1 _ _
    rw [hp] at e1
    injection e1 with e1
    injection e1 with e1 e2
    subst e1 e2
    exact Or.inr ⟨b, off, hp, by rw [World.size_setCell]; exact hlt, fun j v hj => by rw [World.cell?_setCell_other (h := by intro e; injection e with e; exact hc e)]; exact h j v hj⟩
end Go.Dm
namespace Go.Proofs.YthmhalcloogniaaGreatDoor
open Go.RowKit Go.Dm

/-- What the walks ask of the package variables. -/
structure VarsV (w : World) : Prop where
  tab : Tab10 Tryz.prog w
  mx : ∃ m, w.cell? ⟨4, 0, none⟩ = some (.int .i64 m)
  syn : ∃ ev, w.cell? ⟨2, 0, none⟩ = some ev ∧ (ev = .nilIface ∨ ∃ te pe, ev = .iface te pe)
  rng : ∃ ev, w.cell? ⟨3, 0, none⟩ = some ev ∧ (ev = .nilIface ∨ ∃ te pe, ev = .iface te pe)
theorem VarsV.ext {w w' : World} (h : VarsV w) (hx : Ext w w') : VarsV w' := by
  have hc : ∀ {g : Nat} {u}, w.cell? ⟨g, 0, none⟩ = some u → w'.cell? ⟨g, 0, none⟩ = some u := fun {g u} e => by
    rw [hx.cell (by exact World.block_lt_of_cell? _ _ e)]; exact e
  obtain ⟨m, hm⟩ := h.mx
  obtain ⟨a, ha, ha2⟩ := h.syn
  obtain ⟨b, hb, hb2⟩ := h.rng
  exact ⟨tabIs_ext h.tab hx, ⟨m, hc hm⟩, ⟨a, hc ha, ha2⟩, ⟨b, hc hb, hb2⟩⟩

theorem spu_w (s : ByteArray) (hs : s.size ≤ 281474976710656) (w : World) (hv : VarsV w) :
    Calls Tryz.prog 86 #[.string s, .int .i64 10, .int .i64 64] w fun e w' => ∃ er, e = .returned (.tuple #[.int .u64 (valP s.data.toList : Nat), er]) ∧ Ext w w' := by
  unfold valP
  cases h : Lib.parseUintB 64 s.data.toList with
  | ok u =>
    refine (Tryz.strconv_ParseUint_10_at64_ok s (by omega) u h w).mono ?_
    rintro e w' ⟨rfl, hw⟩
    rcases hw with rfl | rfl
    · exact ⟨_, rfl, Ext.refl _⟩
    · exact ⟨_, rfl, Lib.bytesWorld_below w _ s⟩
  | «syntax» =>
    obtain ⟨ev, h1, h2⟩ := hv.syn
    refine (Tryz.strconv_ParseUint_10_at64_syntax s hs h ev w h1 h2).mono ?_
    rintro e w' ⟨N, rfl, _, _, hb⟩
    exact ⟨_, rfl, hb⟩
  | range =>
    obtain ⟨ev, h1, h2⟩ := hv.rng
    refine (Tryz.strconv_ParseUint_10_at64_range s hs h ev w h1 h2).mono ?_
    rintro e w' ⟨N, rfl, _, _, hb⟩
    exact ⟨_, rfl, hb⟩

set_option maxHeartbeats 4000000 in
set_option maxRecDepth 100000 in
theorem vparse_w (s : ByteArray) (w : World) (hs : s.size < 4294967281) (hv : VarsV w) :
    Calls Tryz.prog 43 #[.string s] w fun e w' => e = .returned (.tuple #[vVal (parseV s.data.toList).1, .bool (parseV s.data.toList).2]) ∧ Ext w w' := by
  have hps : bytesOf (Lib.splitB ⟨#[58]⟩ 0 (Lib.countB s ⟨#[58]⟩) s) = splitC 58 s.data.toList := splitB_bytesC s 58
  have hpl : (Lib.splitB ⟨#[58]⟩ 0 (Lib.countB s ⟨#[58]⟩) s).length = Lib.countB s ⟨#[58]⟩ + 1 := Lib.splitB_all ⟨#[58]⟩ (by decide) 0 _ s rfl
  have hcl : Lib.countB s ⟨#[58]⟩ ≤ s.size := Lib.countB_le ⟨#[58]⟩ (by decide) _ s (Nat.le_refl _)
  have hsz : ∀ k, k < Lib.countB s ⟨#[58]⟩ + 1 → (strAt (Lib.splitB ⟨#[58]⟩ 0 (Lib.countB s ⟨#[58]⟩) s) k).size ≤ s.size := fun k hk => by
    have h1 : (strAt (Lib.splitB ⟨#[58]⟩ 0 (Lib.countB s ⟨#[58]⟩) s) k).data.toList ∈ splitC 58 s.data.toList := by
      rw [← hps, ← bytesOf_at (by omega)]
      have hl : k < (bytesOf (Lib.splitB ⟨#[58]⟩ 0 (Lib.countB s ⟨#[58]⟩) s)).length := by simp only [bytesOf, List.length_map]; omega
      rw [List.getD_eq_getElem?_getD, List.getElem?_eq_getElem hl]
      exact List.getElem_mem hl
    exact mem_splitC_len h1
  have hpv : ∀ k, k < Lib.countB s ⟨#[58]⟩ + 1 → valP (strAt (Lib.splitB ⟨#[58]⟩ 0 (Lib.countB s ⟨#[58]⟩) s) k).data.toList = pieceV (splitC 58 s.data.toList) k := fun k hk => by
    unfold pieceV
    rw [← hps, if_pos (by simp only [bytesOf, List.length_map]; omega), bytesOf_at (by omega)]
  have hpz : ∀ k, ¬ k < Lib.countB s ⟨#[58]⟩ + 1 → pieceV (splitC 58 s.data.toList) k = 0 := fun k hk => by
    unfold pieceV
    rw [← hps, if_neg (by simp only [bytesOf, List.length_map]; omega)]
  have hu64 := pieceV_u64 (splitC 58 s.data.toList)
  have hE2 : Ext w ((w.alloc (.cells #[.int .u64 (0 : Nat), .int .u64 (0 : Nat), .int .u64 (0 : Nat), .int .u64 (0 : Nat)] 24)).alloc (.cells #[.int .u64 (0 : Nat), .int .u64 (0 : Nat), .int .u64 (0 : Nat), .int .u64 (0 : Nat)] 24)) := ((Ext.refl w).alloc _).alloc _
  obtain ⟨m, hm⟩ := (hv.ext hE2).mx
  have CS := Tryz.strings_Split s ⟨#[58]⟩ m _ hs hm (by decide)
  have hb0 : VBox w.heap.size (fun _ => 0) ((w.alloc (.cells #[.int .u64 (0 : Nat), .int .u64 (0 : Nat), .int .u64 (0 : Nat), .int .u64 (0 : Nat)] 24)).alloc (.cells #[.int .u64 (0 : Nat), .int .u64 (0 : Nat), .int .u64 (0 : Nat), .int .u64 (0 : Nat)] 24)) := (VBox.new w (fun _ => 0) _).ext ((Ext.refl _).alloc _)
  have hb1 := VBox.new (w.alloc (.cells #[.int .u64 (0 : Nat), .int .u64 (0 : Nat), .int .u64 (0 : Nat), .int .u64 (0 : Nat)] 24)) (fun _ => 0) 24
  rw [World.size_alloc] at hb1
  have hSt : Strs (((w.alloc (.cells #[.int .u64 (0 : Nat), .int .u64 (0 : Nat), .int .u64 (0 : Nat), .int .u64 (0 : Nat)] 24)).alloc (.cells #[.int .u64 (0 : Nat), .int .u64 (0 : Nat), .int .u64 (0 : Nat), .int .u64 (0 : Nat)] 24)).alloc (.cells ((Lib.splitB ⟨#[58]⟩ 0 (Lib.countB s ⟨#[58]⟩) s).map Value.string).toArray 9)) (.slice (some ⟨w.heap.size + 1 + 1, 0, none⟩) (Lib.countB s ⟨#[58]⟩ + 1) (Lib.countB s ⟨#[58]⟩ + 1)) (Lib.splitB ⟨#[58]⟩ 0 (Lib.countB s ⟨#[58]⟩) s) := by
    have h := Sl.lit ((w.alloc (.cells #[.int .u64 (0 : Nat), .int .u64 (0 : Nat), .int .u64 (0 : Nat), .int .u64 (0 : Nat)] 24)).alloc (.cells #[.int .u64 (0 : Nat), .int .u64 (0 : Nat), .int .u64 (0 : Nat), .int .u64 (0 : Nat)] 24)) 9 1 (Lib.countB s ⟨#[58]⟩ + 1) ((Lib.splitB ⟨#[58]⟩ 0 (Lib.countB s ⟨#[58]⟩) s).map Value.string).toArray (by simp [hpl]) (by simp only [maxLen]; omega)
    rw [World.size_alloc, World.size_alloc] at h
    unfold Strs
    rw [hpl]
    simpa using h
  have hfin : ∀ j, j < 4 → pieceV (splitC 58 s.data.toList) j = vG (parseA (splitC 58 s.data.toList)) j := fun k hk =>
    match k, hk with
    | 0, _ => rfl
    | 1, _ => rfl
    | 2, _ => rfl
    | 3, _ => rfl
  have hOk := parseA_ok (splitC 58 s.data.toList)
  have hP : parseV s.data.toList = if textV (parseA (splitC 58 s.data.toList)) = s.data.toList then (parseA (splitC 58 s.data.toList), true) else (noV, false) := rfl
  rw [World.size_alloc, World.size_alloc] at CS
  have hE3 := hE2.alloc (.cells ((Lib.splitB ⟨#[58]⟩ 0 (Lib.countB s ⟨#[58]⟩) s).map Value.string).toArray 9)
  have hb03 := hb0.ext ((Ext.refl _).alloc (.cells ((Lib.splitB ⟨#[58]⟩ 0 (Lib.countB s ⟨#[58]⟩) s).map Value.string).toArray 9))
  have hb13 := hb1.ext ((Ext.refl _).alloc (.cells ((Lib.splitB ⟨#[58]⟩ 0 (Lib.countB s ⟨#[58]⟩) s).map Value.string).toArray 9))
  clear hps hE2 hb0 hb1 hm
  generalize Lib.splitB ⟨#[58]⟩ 0 (Lib.countB s ⟨#[58]⟩) s = ps at *
  generalize Lib.countB s ⟨#[58]⟩ = cnt at *
  generalize pieceV (splitC 58 s.data.toList) = pv at *
  generalize parseA (splitC 58 s.data.toList) = pa at *
  generalize parseV s.data.toList = V at *
  replace CS := Lib.hid CS
  replace hpv := Lib.hid hpv
  replace hpz := Lib.hid hpz
  replace hfin := Lib.hid hfin
  replace hP := Lib.hid hP
  replace hsz := Lib.hid hsz
  obtain ⟨n, hn⟩ : ∃ n, min (cnt + 1) 4 = n := ⟨_, rfl⟩
  have hmin : min ((cnt : Int) + 1) 4 = (n : Int) := by omega
  go_enter Tryz.func43, Tryz.ntmps43
  go_wp2_with fail
  refine CS.out.mono ?_; rintro e w1 ⟨rfl, rfl⟩
  generalize ((w.alloc (.cells #[.int .u64 (0 : Nat), .int .u64 (0 : Nat), .int .u64 (0 : Nat), .int .u64 (0 : Nat)] 24)).alloc (.cells #[.int .u64 (0 : Nat), .int .u64 (0 : Nat), .int .u64 (0 : Nat), .int .u64 (0 : Nat)] 24)).alloc (.cells (ps.map Value.string).toArray 9) = w1 at *
  clear CS
  go_wp2
  go_loopw [12] (fun i wr => ∃ k : Nat, k ≤ n ∧ i = .int .i64 k ∧ Ext w wr ∧ VBox w.heap.size (fun _ => 0) wr ∧ VBox (w.heap.size + 1) (fun j => if j < k then pv j else 0) wr ∧ Strs wr (.slice (some ⟨w.heap.size + 1 + 1, 0, none⟩) (cnt + 1) (cnt + 1)) ps) (fun i _ => n - (intOf i).toNat)
  case atStart => exact ⟨0, by omega, rfl, hE3, hb03, hb13.congr (fun j _ => by simp), hSt⟩
  case round =>
    obtain ⟨k, hk, rfl, hb, v2, v4, hS⟩ := hrel
    by_cases hlt : k < n
    · have hkc : k < cnt + 1 := by omega
      have hk4 : k < 4 := by omega
      obtain ⟨hbs, c0⟩ : w.heap.size + 1 + 1 < wr.heap.size ∧ wr.cell? ⟨w.heap.size + 1 + 1, k, none⟩ = some (.string (strAt ps k)) := by
        have hS2 := hS
        rw [← hpl] at hS2
        have := Strs.cells hS2 (k := k) (by omega)
        rw [Nat.zero_add] at this
        exact this
      have CP := spu_w (strAt ps k) (by have := hsz.out k hkc; omega) wr (hv.ext hb)
      rw [hpv.out k hkc] at CP
      replace CP := Lib.hid CP
      have hst : ∀ w', VBox (w.heap.size + 1) (fun j => if j < k then pv j else 0) w' → VBox (w.heap.size + 1) (fun j => if j < k + 1 then pv j else 0) (w'.setCell ⟨w.heap.size + 1, k, none⟩ (.int .u64 (pv k : Nat))) := fun w' h => (h.set hk4).congr fun j _ => by
        by_cases e : j = k
        · subst e; simp
        · by_cases h2 : j < k
          · simp [e, h2, Nat.lt_succ_of_lt h2]
          · have : ¬ j < k + 1 := by omega
            simp [e, h2, this]
      replace hst := Lib.hid hst
      go_wp2_with fail
      refine CP.out.mono ?_; rintro e w2 ⟨er, rfl, h2⟩
      have u4 := v4.ext h2
      have d0 := u4.cell _ hk4
      have e0 := u4.free _ hk4
      go_wp2
      go_roundw
      case rel => exact ⟨k + 1, by omega, by go_num, (hb.trans h2).setCell (p := ⟨w.heap.size + 1, _, none⟩) (Nat.le_add_right _ 1) _, (v2.ext h2).far (by omega) _, hst.out _ u4, sl_away (hS.ext h2) (by omega) _⟩
      case measure => simp [intOf]; omega
    · obtain rfl : k = n := by omega
      replace v4 : VBox (w.heap.size + 1) (vG pa) wr := v4.congr fun j hj => by
        by_cases h : j < k
        · rw [if_pos h, hfin.out j hj]
        · rw [if_neg h, ← hfin.out j hj, hpz.out j (by omega)]
      have CT := vtext_w pa hOk wr (hv.ext hb).tab
      unfold vVal vF at CT
      obtain ⟨_, c0, c1, c2, c3, _, _, _, _⟩ := v4.four
      clear hpv hpz hfin hsz hmin
      by_cases hc : textV pa = s.data.toList
      · have hVe : Hid (V = (pa, true)) := by show _ = _; rw [hP.out, if_pos hc]
        have htx : (⟨(textV pa).toArray⟩ : ByteArray) = s := (mk_bytes hc.symm).symm
        rw [htx] at CT
        have hq : (s.toList == s.toList) = true := by simp
        replace CT := Lib.hid CT
        go_wp2_with fail
        refine CT.out.mono ?_; rintro e w3 ⟨rfl, h3⟩
        obtain ⟨_, f0, f1, f2, f3, _, _, _, _⟩ := (v4.ext h3).four
        obtain ⟨_, d0, d1, d2, d3, e0, e1, e2, e3⟩ := (v2.ext h3).four
        go_wp2
        have z0 := ((((v2.ext h3).set (k := 0) (v := vG pa 0) (by omega)).set (k := 1) (v := vG pa 1) (by omega)).set (k := 2) (v := vG pa 2) (by omega)).set (k := 3) (v := vG pa 3) (by omega)
        have k0 := z0.cell 0 (by omega)
        have k1 := z0.cell 1 (by omega)
        have k2 := z0.cell 2 (by omega)
        have k3 := z0.cell 3 (by omega)
        simp at k0 k1 k2 k3
        refine bodyPost_ret (v := .tuple #[.agg #[.int .u64 (vG pa 0 : Nat), .int .u64 (vG pa 1 : Nat), .int .u64 (vG pa 2 : Nat), .int .u64 (vG pa 3 : Nat)], .bool true]) (by simp [results, Tryz.results43, go_sem, k0, k1, k2, k3]) rfl ?_
        exact ⟨by rw [hVe.out]; rfl, (hb.trans h3).put4 (b := w.heap.size) (Nat.le_refl _) (vG pa)⟩
      · have hVe : Hid (V = (noV, false)) := by show _ = _; rw [hP.out, if_neg hc]
        have hq : ((⟨(textV pa).toArray⟩ : ByteArray).toList == s.toList) = false := Bool.eq_false_iff.2 fun h => hc (by rw [← bytes_eq.1 h])
        generalize (⟨(textV pa).toArray⟩ : ByteArray) = tx at *
        replace CT := Lib.hid CT
        go_wp2_with fail
        refine CT.out.mono ?_; rintro e w3 ⟨rfl, h3⟩
        obtain ⟨_, d0, d1, d2, d3, e0, e1, e2, e3⟩ := (v2.ext h3).four
        go_wp2
        have z0 := ((((v2.ext h3).set (k := 0) (v := 0) (by omega)).set (k := 1) (v := 0) (by omega)).set (k := 2) (v := 0) (by omega)).set (k := 3) (v := 0) (by omega)
        have k0 := z0.cell 0 (by omega)
        have k1 := z0.cell 1 (by omega)
        have k2 := z0.cell 2 (by omega)
        have k3 := z0.cell 3 (by omega)
        simp at k0 k1 k2 k3
        refine bodyPost_ret (v := .tuple #[.agg #[.int .u64 0, .int .u64 0, .int .u64 0, .int .u64 0], .bool false]) (by simp [results, Tryz.results43, go_sem, k0, k1, k2, k3]) rfl ?_
        exact ⟨by rw [hVe.out]; rfl, (hb.trans h3).put4 (b := w.heap.size) (Nat.le_refl _) (fun _ => 0)⟩

end Go.Proofs.YthmhalcloogniaaGreatDoor

namespace Go.Dm
open Go Go.RowKit
theorem dec_big {x : Nat} (h : 9 < x) : Lib.decDigits x = Lib.decDigits (x / 10) ++ [UInt8.ofNat (48 + x % 10)] := by
  rw [Lib.decDigits, dif_neg (by omega)]
theorem dec_tiny {x : Nat} (h : x ≤ 9) : Lib.decDigits x = [UInt8.ofNat (48 + x)] := by
  rw [Lib.decDigits, dif_pos (by omega)]
theorem fold_wrap {x b : Nat} (hb : 48 ≤ b) : IntKind.u64.wrap (IntKind.u64.wrap ((x : Int) * 10) + ((b : Int) - 48)) = (((x * 10 + (b - 48)) % 18446744073709551616 : Nat) : Int) := by
  simp only [IntKind.wrap, IntKind.bits, IntKind.signed]
  simp; omega
end Go.Dm
namespace Go.Proofs.YthmhalcloogniaaGreatDoor
open Go.RowKit Go.Dm

set_option maxHeartbeats 2000000 in
set_option maxRecDepth 100000 in
theorem r03digits_w (u : Nat) (hu : U64 u) (w : World) :
    Calls Tryz.prog 89 #[.int .u64 (u : Nat)] w fun e w' => e = .returned (.string ⟨(Lib.decDigits u).toArray⟩) ∧ Ext w w' := by
  have h20 := dec_le hu
  generalize hD : Lib.decDigits u = D at *
  replace hD := Lib.hid hD
  go_enter Tryz.func89, Tryz.ntmps89
  go_wp2
  go_loopw [0, 3] (fun u' v wr => ∃ (x : Nat) (b : ByteArray), U64 x ∧ b.size ≤ 20 ∧ u' = .int .u64 x ∧ v = .string b ∧ Ext w wr ∧ Hid (D = Lib.decDigits x ++ b.data.toList)) (fun u' _ _ => (intOf u').toNat)
  case atStart => exact ⟨u, ⟨#[]⟩, hu, by decide, rfl, rfl, Ext.refl _, by show _ = _; rw [← hD.out]; simp⟩
  case round =>
    obtain ⟨x, b, hx, hl, rfl, rfl, hb, HP⟩ := hrel
    have hx' : x < 18446744073709551616 := hx
    by_cases h : 9 < x
    · have hst := HP.out
      rw [dec_big h] at hst
      obtain ⟨y, hy⟩ : ∃ y : UInt8, UInt8.ofNat (48 + x % 10) = y := ⟨_, rfl⟩
      have hyx : (48 + (x : Int) % 10) = (y.toNat : Int) := by
        rw [← hy, UInt8.toNat_ofNat_of_lt' (by show 48 + x % 10 < 256; omega)]; omega
      rw [hy] at hst
      clear hy
      replace hst := Lib.hid hst
      have hl9 : b.size ≤ 19 := by
        have h1 := congrArg List.length hst.out
        have h3 := List.length_pos_iff.2 (dec_ne (u := x / 10))
        simp only [List.length_append, List.length_cons, List.length_nil, ← size_len] at h1
        omega
      have hl4 := Sl.lit wr 5 1 1 #[.int .u8 (y.toNat : Int)] rfl (by simp [maxLen])
      have hcv := run_string_sl (l := [y]) (dst := 9) Tryz.underlying56 Tryz.underlying5 Tryz.underlying9 hl4 rfl (by simp)
      have hb4 := hb.trans ((Ext.refl wr).alloc (.cells #[.int .u8 (y.toNat : Int)] 5))
      have hst2 : Hid (D = Lib.decDigits (x / 10) ++ ((⟨[y].toArray⟩ : ByteArray) ++ b).data.toList) := by
        show _ = _
        rw [hst.out, data_append]; simp
      have hs2 : ((⟨[y].toArray⟩ : ByteArray) ++ b).size ≤ 20 := by rw [ByteArray.size_append]; show 1 + b.size ≤ 20; omega
      have hwr : IntKind.u64.wrap ((x : Int) / 10) = ((x / 10 : Nat) : Int) := by
        rw [show ((x : Int) / 10) = ((x / 10 : Nat) : Int) by omega]
        simp only [IntKind.wrap, IntKind.bits, IntKind.signed]
        simp; omega
      clear hst hl4 HP
      go_wp2
      go_roundw
      case rel => exact ⟨x / 10, _, hx.div _, hs2, by simp, rfl, hb4, hst2⟩
      case measure => simp [intOf]; omega
    · have hst := HP.out
      rw [dec_tiny (x := x) (by omega)] at hst
      obtain ⟨y, hy⟩ : ∃ y : UInt8, UInt8.ofNat (48 + x) = y := ⟨_, rfl⟩
      have hyx : (48 + (x : Int)) = (y.toNat : Int) := by
        rw [← hy, UInt8.toNat_ofNat_of_lt' (by show 48 + x < 256; omega)]; omega
      rw [hy] at hst
      clear hy
      replace hst := Lib.hid hst
      have hl4 := Sl.lit wr 5 1 1 #[.int .u8 (y.toNat : Int)] rfl (by simp [maxLen])
      have hcv := run_string_sl (l := [y]) (dst := 9) Tryz.underlying56 Tryz.underlying5 Tryz.underlying9 hl4 rfl (by simp)
      have hb4 := hb.trans ((Ext.refl wr).alloc (.cells #[.int .u8 (y.toNat : Int)] 5))
      have hst2 : Hid ((⟨D.toArray⟩ : ByteArray) = (⟨[y].toArray⟩ : ByteArray) ++ b) := by
        show _ = _
        refine (mk_bytes ?_).symm
        rw [hst.out, data_append]
      clear hst hl4 HP
      go_wp2
      go_ret
      exact ⟨by rw [hst2.out]; rfl, hb4⟩

set_option maxHeartbeats 2000000 in
set_option maxRecDepth 100000 in
theorem r03number_w (s : ByteArray) (hs : s.size ≤ 281474976710656) (w : World) :
    Calls Tryz.prog 48 #[.string s] w fun e w' => e = .returned (.tuple #[.int .u64 (numV s.data.toList).1, .bool (numV s.data.toList).2]) ∧ Ext w w' := by
  have hln : s.data.toList.length = s.size := rfl
  by_cases h0 : s.size = 0
  · have hz : Hid (numV s.data.toList = (0, false)) := by
      show _ = _
      have he : s.data.toList = [] := List.length_eq_zero_iff.1 (hln.trans h0)
      rw [he, numV_nil]
    have h0b : ((s.size : Int) == 0) = true := by rw [beq_iff_eq]; omega
    go_enter Tryz.func48, Tryz.ntmps48
    go_wp2
    go_ret2
    exact ⟨by rw [hz.out]; rfl, Ext.refl _⟩
  · have h0b : ((s.size : Int) == 0) = false := by rw [beq_eq_false_iff_ne]; omega
    by_cases h20 : 20 < s.size
    · have hz : Hid (numV s.data.toList = (0, false)) := numV_long (by rw [hln]; exact h20)
      go_enter Tryz.func48, Tryz.ntmps48
      go_wp2
      go_ret2
      exact ⟨by rw [hz.out]; rfl, Ext.refl _⟩
    · have hN : numV s.data.toList = if Lib.decDigits (foldD 0 s.data.toList) = s.data.toList then (foldD 0 s.data.toList, true) else (0, false) := rfl
      have hodd : ∀ k (h : k < s.size), ((s[k]'h).toNat < 48 ∨ 57 < (s[k]'h).toNat) → numV s.data.toList = (0, false) := fun k h hh => numV_odd (b := s[k]'h) (List.getElem_mem (l := s.data.toList) (n := k) (by rw [hln]; exact h)) hh
      have hstep : ∀ k (h : k < s.size), foldD 0 (s.data.toList.take (k + 1)) = (foldD 0 (s.data.toList.take k) * 10 + ((s[k]'h).toNat - 48)) % 18446744073709551616 := fun k h => by
        rw [List.take_succ_eq_append_getElem (show k < s.data.toList.length by rw [hln]; exact h), foldD_snoc]
        rfl
      have hall : foldD 0 (s.data.toList.take s.size) = foldD 0 s.data.toList := by rw [List.take_of_length_le (by rw [hln]; omega)]
      have hfz : foldD 0 (s.data.toList.take 0) = 0 := rfl
      have hfu : ∀ k, U64 (foldD 0 (s.data.toList.take k)) := fun k => foldD_u64 (by unfold U64; omega) _
      obtain ⟨F, hF⟩ : ∃ F : Nat → Nat, ∀ k, foldD 0 (s.data.toList.take k) = F k := ⟨fun k => foldD 0 (s.data.toList.take k), fun _ => rfl⟩
      simp only [hF] at hstep hall hfz hfu
      rw [← hall] at hN
      clear hF hall
      generalize numV s.data.toList = V at *
      have CD := fun (U : World) => r03digits_w (F s.size) (hfu _) U
      replace hN := Lib.hid hN
      replace hodd := Lib.hid hodd
      replace hstep := Lib.hid hstep
      replace hfz := Lib.hid hfz
      replace CD := Lib.hid CD
      clear hln
      go_enter Tryz.func48, Tryz.ntmps48
      go_wp2
      go_loopw [4, 5] (fun n' i' wr => ∃ k : Nat, k ≤ s.size ∧ i' = .int .i64 k ∧ n' = .int .u64 (F k : Nat) ∧ Ext w wr) (fun _ i' _ => s.size - (intOf i').toNat)
      case atStart => exact ⟨0, by omega, rfl, by rw [hfz.out]; rfl, Ext.refl _⟩
      case round =>
        obtain ⟨k, hk, rfl, rfl, hb⟩ := hrel
        by_cases hlt : k < s.size
        · have hs1 := hstep.out k hlt
          have ho := hodd.out k hlt
          obtain ⟨b, hbb⟩ : ∃ b : Nat, (s[k]'hlt).toNat = b := ⟨_, rfl⟩
          have hb2 : b < 256 := by rw [← hbb]; exact UInt8.toNat_lt _
          rw [hbb] at hs1 ho
          by_cases h1 : b < 48
          · have hz := Lib.hid (ho (Or.inl h1))
            clear ho hs1
            go_wp2
            go_ret2
            exact ⟨by rw [hz.out]; rfl, hb⟩
          · by_cases h2 : 57 < b
            · have hz := Lib.hid (ho (Or.inr h2))
              clear ho hs1
              go_wp2
              go_ret2
              exact ⟨by rw [hz.out]; rfl, hb⟩
            · have hW := fold_wrap (x := F k) (b := b) (by omega)
              rw [← hs1] at hW
              clear ho hs1
              have hfk := hfu (k + 1)
              go_wp2
              go_roundw
              case rel => exact ⟨k + 1, by omega, by go_num, by first | rw [hW] | rfl, hb⟩
              case measure => simp [intOf]; omega
        · obtain rfl : k = s.size := by omega
          by_cases hc : Lib.decDigits (F s.size) = s.data.toList
          · have hz : Hid (V = (F s.size, true)) := by show _ = _; rw [hN.out, if_pos hc]
            have htx : (⟨(Lib.decDigits (F s.size)).toArray⟩ : ByteArray) = s := (mk_bytes hc.symm).symm
            have CT := CD.out
            rw [htx] at CT
            have hq : (s.toList == s.toList) = true := by simp
            replace CT := Lib.hid CT
            clear hN hodd CD
            go_wp2_with fail
            refine (CT.out wr).mono ?_; rintro e w3 ⟨rfl, h3⟩
            go_wp2
            go_ret2
            exact ⟨by rw [hz.out]; rfl, hb.trans h3⟩
          · have hz : Hid (V = (0, false)) := by show _ = _; rw [hN.out, if_neg hc]
            have hq : ((⟨(Lib.decDigits (F s.size)).toArray⟩ : ByteArray).toList == s.toList) = false :=
              Bool.eq_false_iff.2 fun h => hc (congrArg (fun b : ByteArray => b.data.toList) (bytes_eq.1 h))
            have CT := CD.out
            generalize (⟨(Lib.decDigits (F s.size)).toArray⟩ : ByteArray) = tx at *
            replace CT := Lib.hid CT
            clear hN hodd CD
            go_wp2_with fail
            refine (CT.out wr).mono ?_; rintro e w3 ⟨rfl, h3⟩
            go_wp2
            go_ret2
            exact ⟨by rw [hz.out]; rfl, hb.trans h3⟩

end Go.Proofs.YthmhalcloogniaaGreatDoor

namespace Go.Proofs.YthmhalcloogniaaGreatDoor
open Go.RowKit Go.Dm

set_option maxHeartbeats 4000000 in
set_option maxRecDepth 100000 in
theorem r03put_w (a : Vc) (ha : OkV a) (w : World) :
    Calls Tryz.prog 60 #[vVal a] w fun e w' => e = .returned (.string ⟨(putV a).toArray⟩) ∧ Ext w w' := by
  have hl := fun k => putL_ten (u := vG a k) (ha.u64 k)
  have CU := fun (k : Nat) (U : World) => rput_w (vG a k) U (ha.u64 k)
  obtain ⟨P, hP⟩ : ∃ P : Nat → ByteArray, ∀ k, (⟨(putL (vG a k)).toArray⟩ : ByteArray) = P k := ⟨fun k => ⟨(putL (vG a k)).toArray⟩, fun _ => rfl⟩
  have hR : Hid ((⟨(putV a).toArray⟩ : ByteArray) = P 0 ++ P 1 ++ P 2 ++ P 3) := by
    show _ = _
    simp only [← hP]
    refine (mk_bytes ?_).symm
    simp [putV]
  have hs : ∀ k, (P k).size ≤ 10 := fun k => by
    rw [← hP]
    show (putL _).toArray.size ≤ 10
    rw [List.size_toArray]; exact hl k
  simp only [hP] at CU
  clear hP hl
  unfold vVal
  generalize vG a = A at *
  have s0 := hs 0
  have s1 := hs 1
  have s2 := hs 2
  have s3 := hs 3
  clear hs
  obtain ⟨l1, c0, c1, c2, c3, _, _, _, _⟩ := (VBox.new w A 30).four
  have hE : Ext w (w.alloc (.cells #[.int .u64 (A 0 : Nat), .int .u64 (A 1 : Nat), .int .u64 (A 2 : Nat), .int .u64 (A 3 : Nat)] 30)) := (Ext.refl w).alloc _
  unfold vF
  have C0 := Lib.hid (CU 0)
  have C1 := Lib.hid (CU 1)
  have C2 := Lib.hid (CU 2)
  have C3 := Lib.hid (CU 3)
  clear CU
  generalize P 0 = p0 at *
  generalize P 1 = p1 at *
  generalize P 2 = p2 at *
  generalize P 3 = p3 at *
  go_enter Tryz.func60, Tryz.ntmps60
  go_wp2_with fail
  generalize w.alloc (.cells #[.int .u64 (A 0 : Nat), .int .u64 (A 1 : Nat), .int .u64 (A 2 : Nat), .int .u64 (A 3 : Nat)] 30) = w1 at *
  refine Dm.wp_region_grow (by kernel_rfl) (by kernel_rfl) ?_
  repeat (go_big_quiet_step (first
    | (go_at_call 61; with_reducible exact Calls.quietE (C0.out _))
    | (go_at_call 61; with_reducible exact Calls.quietE (C1.out _))
    | (go_at_call 61; with_reducible exact Calls.quietE (C2.out _))
    | (go_at_call 61; with_reducible exact Calls.quietE (C3.out _))))
  refine wpQuiet_nil ?_
  intro U h1
  go_wp2
  go_ret
  exact ⟨by rw [hR.out]; rfl, hE.trans h1⟩


set_option maxHeartbeats 4000000 in
set_option maxRecDepth 100000 in
theorem r03text_w (a : Vc) (ha : OkV a) (w : World) :
    Calls Tryz.prog 103 #[vVal a] w fun e w' => e = .returned (.string ⟨(textV a).toArray⟩) ∧ Ext w w' := by
  have hl := fun k => dec_le (u := vG a k) (ha.u64 k)
  have CU := fun (k : Nat) (U : World) => r03digits_w (vG a k) (ha.u64 k) U
  obtain ⟨P, hP⟩ : ∃ P : Nat → ByteArray, ∀ k, (⟨(Lib.decDigits (vG a k)).toArray⟩ : ByteArray) = P k := ⟨fun k => ⟨(Lib.decDigits (vG a k)).toArray⟩, fun _ => rfl⟩
  have hR : Hid ((⟨(textV a).toArray⟩ : ByteArray) = P 0 ++ (⟨#[58]⟩ : ByteArray) ++ P 1 ++ (⟨#[58]⟩ : ByteArray) ++ P 2 ++ (⟨#[58]⟩ : ByteArray) ++ P 3) := by
    show _ = _
    simp only [← hP]
    refine (mk_bytes ?_).symm
    simp [textV, Lib.join, List.intercalate]
  have hs : ∀ k, (P k).size ≤ 20 := fun k => by
    rw [← hP]
    show (Lib.decDigits _).toArray.size ≤ 20
    rw [List.size_toArray]; exact hl k
  simp only [hP] at CU
  clear hP hl
  unfold vVal
  generalize vG a = A at *
  have s0 := hs 0
  have s1 := hs 1
  have s2 := hs 2
  have s3 := hs 3
  clear hs
  obtain ⟨l1, c0, c1, c2, c3, _, _, _, _⟩ := (VBox.new w A 30).four
  have hE : Ext w (w.alloc (.cells #[.int .u64 (A 0 : Nat), .int .u64 (A 1 : Nat), .int .u64 (A 2 : Nat), .int .u64 (A 3 : Nat)] 30)) := (Ext.refl w).alloc _
  unfold vF
  have C0 := Lib.hid (CU 0)
  have C1 := Lib.hid (CU 1)
  have C2 := Lib.hid (CU 2)
  have C3 := Lib.hid (CU 3)
  clear CU
  generalize P 0 = p0 at *
  generalize P 1 = p1 at *
  generalize P 2 = p2 at *
  generalize P 3 = p3 at *
  go_enter Tryz.func103, Tryz.ntmps103
  go_wp2_with fail
  generalize w.alloc (.cells #[.int .u64 (A 0 : Nat), .int .u64 (A 1 : Nat), .int .u64 (A 2 : Nat), .int .u64 (A 3 : Nat)] 30) = w1 at *
  refine Dm.wp_region_grow (by kernel_rfl) (by kernel_rfl) ?_
  repeat (go_big_quiet_step (first
    | (go_at_call 89; with_reducible exact Calls.quietE (C0.out _))
    | (go_at_call 89; with_reducible exact Calls.quietE (C1.out _))
    | (go_at_call 89; with_reducible exact Calls.quietE (C2.out _))
    | (go_at_call 89; with_reducible exact Calls.quietE (C3.out _))))
  refine wpQuiet_nil ?_
  intro U h1
  go_wp2
  go_ret
  exact ⟨by rw [hR.out]; rfl, hE.trans h1⟩


set_option maxHeartbeats 4000000 in
set_option maxRecDepth 100000 in
theorem r03get_w (s : ByteArray) (p : Int) (w : World) (hs : s.size ≤ 281474976710656) :
    Calls Tryz.prog 38 #[.string s, .int .i64 p] w fun e w' => e = .returned (.tuple #[vVal (getV s.data.toList p).1, .int .i64 (getV s.data.toList p).2.1, .bool (getV s.data.toList p).2.2]) ∧ Ext w w' := by
  have CG := fun (q : Int) (U : World) => rget_w s q U hs
  have hst := fun k => show getVF s.data.toList p (k + 1) = _ from rfl
  have hfin := fun k => getVF_stop (l := s.data.toList) (p := p) (k := k)
  have hle := fun k ns q => getVF_len (l := s.data.toList) (p := p) (k := k) (ns := ns) (q := q)
  have hV : getV s.data.toList p = match getVF s.data.toList p 4 with
    | some (a, q) => (a, q, true)
    | none => (noV, 0, false) := rfl
  have h0 : getVF s.data.toList p 0 = some ([], p) := rfl
  generalize getV s.data.toList p = V at *
  unfold getVF at hst
  change ∀ k, getVF s.data.toList p (k + 1) = match getVF s.data.toList p k with
    | none => none
    | some (ns, q) => if (getI s.data.toList q).2.2 then some (ns ++ [(getI s.data.toList q).1], (getI s.data.toList q).2.1) else none at hst
  generalize getVF s.data.toList p = gf at *
  generalize getI s.data.toList = gi at *
  replace CG := Lib.hid CG
  replace hst := Lib.hid hst
  replace hfin := Lib.hid hfin
  replace hle := Lib.hid hle
  replace hV := Lib.hid hV
  replace h0 := Lib.hid h0
  have hz1 := VBox.new (w.alloc (.cells #[.int .u64 (0 : Nat), .int .u64 (0 : Nat), .int .u64 (0 : Nat), .int .u64 (0 : Nat)] 30)) (fun _ => 0) 30
  rw [World.size_alloc] at hz1
  go_enter Tryz.func38, Tryz.ntmps38
  go_wp2
  go_loopw [1, 8] (fun q i wr => ∃ (k : Nat) (ns : List Nat) (z : Int), k ≤ 4 ∧ i = .int .i64 k ∧ q = .int .i64 z ∧ ns.length = k ∧ Ext w wr ∧ VBox w.heap.size (fun _ => 0) wr ∧ VBox (w.heap.size + 1) (fun j => ns.getD j 0) wr ∧ Hid (gf k = some (ns, z))) (fun _ i _ => 4 - (intOf i).toNat)
  case atStart => exact ⟨0, [], p, by omega, rfl, rfl, rfl, ((Ext.refl _).alloc _).alloc _, (VBox.new w (fun _ => 0) _).ext ((Ext.refl _).alloc _), hz1.congr (fun j _ => by simp), h0.out⟩
  case round =>
    obtain ⟨k, ns, z, hk, rfl, rfl, hnl, hb, v3, v4, HG⟩ := hrel
    by_cases hlt : k < 4
    · have C := CG.out z wr
      have hs1 := hst.out k
      rw [HG.out] at hs1
      simp only at hs1
      generalize gi z = gz at C hs1
      obtain ⟨x, y, o⟩ := gz
      simp only at C hs1
      cases o with
      | false =>
        simp only [Bool.false_eq_true, if_false] at hs1
        have hn4 := hfin.out (k + 1) hs1 (4 - (k + 1))
        rw [show k + 1 + (4 - (k + 1)) = 4 by omega] at hn4
        have hVn : Hid (V = (noV, 0, false)) := by show _ = _; rw [hV.out, hn4]
        clear hs1 hn4
        replace C := Lib.hid C
        go_wp2_with fail
        refine C.out.mono ?_; rintro e w2 ⟨rfl, h2⟩
        obtain ⟨_, d0, d1, d2, d3, e0, e1, e2, e3⟩ := (v3.ext h2).four
        go_wp2
        have z0 := ((((v3.ext h2).set (k := 0) (v := 0) (by omega)).set (k := 1) (v := 0) (by omega)).set (k := 2) (v := 0) (by omega)).set (k := 3) (v := 0) (by omega)
        have k0 := z0.cell 0 (by omega)
        have k1 := z0.cell 1 (by omega)
        have k2 := z0.cell 2 (by omega)
        have k3 := z0.cell 3 (by omega)
        simp at k0 k1 k2 k3
        refine bodyPost_ret (v := .tuple #[.agg #[.int .u64 0, .int .u64 0, .int .u64 0, .int .u64 0], .int .i64 0, .bool false]) (by simp [results, Tryz.results38, go_sem, k0, k1, k2, k3]) rfl ?_
        exact ⟨by rw [hVn.out]; rfl, (hb.trans h2).put4 (b := w.heap.size) (Nat.le_refl _) (fun _ => 0)⟩
      | true =>
        simp only [if_true] at hs1
        replace hs1 := Lib.hid hs1
        replace C := Lib.hid C
        go_wp2_with fail
        refine C.out.mono ?_; rintro e w2 ⟨rfl, h2⟩
        have u4 := v4.ext h2
        have d0 := u4.cell _ hlt
        have e0 := u4.free _ hlt
        have hst4 : VBox (w.heap.size + 1) (fun j => (ns ++ [x]).getD j 0) (w2.setCell ⟨w.heap.size + 1, k, none⟩ (.int .u64 (x : Nat))) := (u4.set hlt).congr fun j _ => by
          by_cases e : j = k
          · subst e; rw [← hnl]; simp
          · by_cases h3 : j < k
            · simp [e, List.getD_eq_getElem?_getD, List.getElem?_append_left (show j < ns.length by omega)]
            · simp [e, List.getD_eq_getElem?_getD, List.getElem?_eq_none (show ns.length ≤ j by omega), List.getElem?_eq_none (show (ns ++ [x]).length ≤ j by simp; omega)]
        go_wp2
        go_roundw
        case rel => exact ⟨k + 1, ns ++ [x], y, by omega, by go_num, rfl, by simp [hnl], (hb.trans h2).setCell (p := ⟨w.heap.size + 1, _, none⟩) (Nat.le_add_right _ 1) _, (v3.ext h2).far (by omega) _, hst4, hs1⟩
        case measure => simp [intOf]; omega
    · obtain rfl : k = 4 := by omega
      have hVn : Hid (V = (ns, z, true)) := by show _ = _; rw [hV.out, HG.out]
      obtain ⟨x0, x1, x2, x3, rfl⟩ : ∃ x0 x1 x2 x3, ns = [x0, x1, x2, x3] := by
        match ns, hnl with
        | [x0, x1, x2, x3], _ => exact ⟨x0, x1, x2, x3, rfl⟩
      have d0 : wr.cell? ⟨w.heap.size + 1, 0, none⟩ = some (.int .u64 (x0 : Nat)) := v4.cell 0 (by omega)
      have d1 : wr.cell? ⟨w.heap.size + 1, 1, none⟩ = some (.int .u64 (x1 : Nat)) := v4.cell 1 (by omega)
      have d2 : wr.cell? ⟨w.heap.size + 1, 2, none⟩ = some (.int .u64 (x2 : Nat)) := v4.cell 2 (by omega)
      have d3 : wr.cell? ⟨w.heap.size + 1, 3, none⟩ = some (.int .u64 (x3 : Nat)) := v4.cell 3 (by omega)
      have e0 := v3.free 0 (by omega)
      have g0 := v3.cell 0 (by omega)
      have e1 := v3.free 1 (by omega)
      have g1 := v3.cell 1 (by omega)
      have e2 := v3.free 2 (by omega)
      have g2 := v3.cell 2 (by omega)
      have e3 := v3.free 3 (by omega)
      have g3 := v3.cell 3 (by omega)
      clear hnl
      go_wp2
      have z0 := (((v3.set (k := 0) (v := x0) (by omega)).set (k := 1) (v := x1) (by omega)).set (k := 2) (v := x2) (by omega)).set (k := 3) (v := x3) (by omega)
      have k0 := z0.cell 0 (by omega)
      have k1 := z0.cell 1 (by omega)
      have k2 := z0.cell 2 (by omega)
      have k3 := z0.cell 3 (by omega)
      simp at k0 k1 k2 k3
      refine bodyPost_ret (v := .tuple #[.agg #[.int .u64 (x0 : Nat), .int .u64 (x1 : Nat), .int .u64 (x2 : Nat), .int .u64 (x3 : Nat)], .int .i64 z, .bool true]) (by simp [results, Tryz.results38, go_sem, k0, k1, k2, k3]) rfl ?_
      exact ⟨by rw [hVn.out]; rfl, hb.put4 (b := w.heap.size) (Nat.le_refl _) (fun j => [x0, x1, x2, x3].getD j 0)⟩


end Go.Proofs.YthmhalcloogniaaGreatDoor
