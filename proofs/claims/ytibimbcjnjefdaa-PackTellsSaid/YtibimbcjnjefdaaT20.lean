/- Texts one behind the other: Chapter 2: the walks of the document's runes and names; Chapter 1: the walk of the program's Get, whole; Chapter 1: the walk of the program's GetText; Chapter 1: the walks of the document's Put, PutText, Get; Chapter 1: the walks of the document's Get and GetText; Chapter 1: the walk of the document's GetText; Chapter 2: the walks of the document's Count, letter, Right; Chapter 4: the walks of the document's Right, Find, Put, Text. -/
import Derived.Test.YtibimbcjnjefdaaT19
import Derived.Test.YtibimbcjnjefdaaProg
import Derived.Test.YtibimbcjnjefdaaT18
import Derived.Test.YtibimbcjnjefdaaT17
import Derived.Test.YtibimbcjnjefdaaT5
import Derived.IntWalk
import Derived.Test.YtibimbcjnjefdaaT16
import Derived.Test.YtibimbcjnjefdaaT8
namespace Go.Dm
open Go Go.RowKit
theorem sAt {s : ByteArray} {k : Nat} (h : k < s.size) : (s[k]).toNat = bAt s.data.toList k := by
  have h' : k < s.data.size := h
  simp only [bAt, List.getD_eq_getElem?_getD, Array.getElem?_toList, Array.getElem?_eq_getElem h', Option.getD_some]
  rfl
theorem not_longC_len {n low high : Nat} {l : Bs} (h : ¬ n ≤ l.length) : ¬ longC n low high l := fun c => h c.1
theorem not_longC_low {n low high : Nat} {l : Bs} (h : bAt l 1 < low) : ¬ longC n low high l := fun c => by have := c.2.1; omega
theorem not_longC_high {n low high : Nat} {l : Bs} (h : high < bAt l 1) : ¬ longC n low high l := fun c => by have := c.2.2.1; omega
theorem not_longC_at {n low high j : Nat} {l : Bs} (h1 : 2 ≤ j) (h2 : j < n) (h : bAt l j < 128 ∨ 191 < bAt l j) : ¬ longC n low high l := fun c => by have := c.2.2.2 j h1 h2; omega
end Go.Dm
namespace Go.Proofs.Ytibimbcjnjefdaa
open Go.RowKit Go.Dm

end Go.Proofs.Ytibimbcjnjefdaa

namespace Go.Dm
open Go Go.RowKit
/-- The variables that Get keeps, in five blocks from B on. -/
structure Kept (B : Nat) (s : ByteArray) (at' : Int) (u n : Int) (w : World) : Prop where
  s : Cell B (.string s) w
  a : Cell (B + 1) (.int .i64 at') w
  u : Cell (B + 1 + 1) (.int .u64 u) w
  n : Cell (B + 1 + 1 + 1) (.int .i64 n) w
  o : Cell (B + 1 + 1 + 1 + 1) (.bool false) w
theorem Kept.ext {B : Nat} {s : ByteArray} {at' u n : Int} {w w' : World} (h : Kept B s at' u n w) (hx : Ext w w') : Kept B s at' u n w' :=
  ⟨h.s.ext hx, h.a.ext hx, h.u.ext hx, h.n.ext hx, h.o.ext hx⟩
theorem Kept.setU {B : Nat} {s : ByteArray} {at' u n : Int} {w : World} (h : Kept B s at' u n w) (v : Int) : Kept B s at' v n (w.setCell ⟨B + 1 + 1, 0, none⟩ (.int .u64 v)) :=
  ⟨h.s.other (by omega) _, h.a.other (by omega) _, h.u.set _, h.n.other (by omega) _, h.o.other (by omega) _⟩
theorem Kept.setN {B : Nat} {s : ByteArray} {at' u n : Int} {w : World} (h : Kept B s at' u n w) (v : Int) : Kept B s at' u v (w.setCell ⟨B + 1 + 1 + 1, 0, none⟩ (.int .i64 v)) :=
  ⟨h.s.other (by omega) _, h.a.other (by omega) _, h.u.other (by omega) _, h.n.set _, h.o.other (by omega) _⟩
theorem Kept.four {B : Nat} {s : ByteArray} {at' u n : Int} {w : World} (h : Kept B s at' u n w) : Go.Dm.Cell (B + 1 + 1 + 1) (.int .i64 n) w ∧ Go.Dm.Cell (B + 1 + 1) (.int .u64 u) w ∧ Go.Dm.Cell B (.string s) w ∧ Go.Dm.Cell (B + 1) (.int .i64 at') w := ⟨h.n, h.u, h.s, h.a⟩
theorem Cell.new (w : World) (v : Value) (t : TypeId) : Cell w.heap.size v (w.alloc (.cells #[v] t)) :=
  ⟨by simp, by simp, by simp⟩
/-- The five variables are laid. -/
def laid5 (w : World) (s : ByteArray) (p : Int) (t0 t1 t2 t3 t4 : TypeId) : World :=
  ((((w.alloc (.cells #[.string s] t0)).alloc (.cells #[.int .i64 p] t1)).alloc (.cells #[.int .u64 0] t2)).alloc (.cells #[.int .i64 0] t3)).alloc (.cells #[.bool false] t4)
theorem laid5_ext (w : World) (s : ByteArray) (p : Int) (t0 t1 t2 t3 t4 : TypeId) : Ext w (laid5 w s p t0 t1 t2 t3 t4) :=
  (((((Ext.refl w).alloc _).alloc _).alloc _).alloc _).alloc _
theorem laid5_kept (w : World) (s : ByteArray) (p : Int) (t0 t1 t2 t3 t4 : TypeId) : Kept w.heap.size s p 0 0 (laid5 w s p t0 t1 t2 t3 t4) := by
  have c0 := Cell.new w (.string s) t0
  have c1 := Cell.new (w.alloc (.cells #[.string s] t0)) (.int .i64 p) t1
  have c2 := Cell.new ((w.alloc (.cells #[.string s] t0)).alloc (.cells #[.int .i64 p] t1)) (.int .u64 0) t2
  have c3 := Cell.new (((w.alloc (.cells #[.string s] t0)).alloc (.cells #[.int .i64 p] t1)).alloc (.cells #[.int .u64 0] t2)) (.int .i64 0) t3
  have c4 := Cell.new ((((w.alloc (.cells #[.string s] t0)).alloc (.cells #[.int .i64 p] t1)).alloc (.cells #[.int .u64 0] t2)).alloc (.cells #[.int .i64 0] t3)) (.bool false) t4
  simp only [World.size_alloc] at c1 c2 c3 c4
  exact ⟨c0.ext ((((((Ext.refl _).alloc _).alloc _).alloc _).alloc _)), c1.ext (((((Ext.refl _).alloc _).alloc _).alloc _)), c2.ext ((((Ext.refl _).alloc _).alloc _)), c3.ext (((Ext.refl _).alloc _)), c4⟩
theorem laid5_size (w : World) (s : ByteArray) (p : Int) (t0 t1 t2 t3 t4 : TypeId) : (laid5 w s p t0 t1 t2 t3 t4).heap.size = w.heap.size + 1 + 1 + 1 + 1 + 1 := by
  simp [laid5]
theorem below_door {w wr wz wy w'' : World} {a b : Addr} {x y : Value} (hL : Below w.heap.size ((wy.setCell a y)) w'') (hb : Below w.heap.size w wr) (hxz : Ext wr wz) (hxy : Ext (wz.setCell b x) wy) (hB : w.heap.size < wr.heap.size)
    (ha : w.heap.size ≤ a.block := by first | omega | (simp; omega)) (hbb : w.heap.size ≤ b.block := by first | omega | (simp; omega)) : Ext w w'' := by
  have h1 := hxz.size
  have h2 := hxy.size
  rw [World.size_setCell] at h2
  exact ((((hb.trans (below_of_ext hxz (by omega))).setCell (p := b) hbb x).trans (below_of_ext hxy (by rw [World.size_setCell]; omega))).setCell (p := a) ha y).trans hL
end Go.Dm
namespace Go.Proofs.Ytibimbcjnjefdaa
open Go.RowKit Go.Dm

end Go.Proofs.Ytibimbcjnjefdaa

namespace Go.Dm
open Go Go.RowKit

theorem results3 {fn : Func} {t u v : Tmp} (h : fn.results = #[.tmp t, .tmp u, .tmp v]) (tmps : Array Value) (P : Program) (w : World) :
    (results fn tmps).run P w = .ok (.tuple #[tmps.getD t undef, tmps.getD u undef, tmps.getD v undef]) w := by
  simp [results, h]

/-- What a reader finds at a place of a text. -/
def atI {α : Type} (g : Bs → Option (α × Nat)) (d : α) (l : Bs) (p : Int) : α × Int × Bool :=
  if p < 0 ∨ (l.length : Int) ≤ p then (d, 0, false) else
    match g (l.drop p.toNat) with
    | some (u, n) => (u, p + n, true)
    | none => (d, 0, false)

theorem getI_at (l : Bs) (p : Int) : getI l p = atI getL 0 l p := by
  unfold getI atI
  split
  · rfl
  · cases getL (l.drop p.toNat) <;> rfl

/-- The text that stands first. -/
def getTextL (most : Nat) (l : Bs) : Option (Bs × Nat) :=
  match getL l with
  | some (u, n) => if u ≤ most ∧ u ≤ l.length - n then some ((l.drop n).take u, n + u) else none
  | none => none

theorem getTextL_none {most : Nat} {l : Bs} (h : getL l = none) : getTextL most l = none := by
  unfold getTextL; rw [h]
theorem getTextL_some {most : Nat} {l : Bs} {u n : Nat} (h : getL l = some (u, n)) : getTextL most l = if u ≤ most ∧ u ≤ l.length - n then some ((l.drop n).take u, n + u) else none := by
  unfold getTextL; rw [h]

/-- What is got is what was put. -/
theorem getTextL_iff {most : Nat} {l t : Bs} {n : Nat} (hl : U64 l.length) : getTextL most l = some (t, n) ↔ t.length ≤ most ∧ n = (putL t.length ++ t).length ∧ putL t.length ++ t = l.take n ∧ n ≤ l.length := by
  constructor
  · intro h
    cases hg : getL l with
    | none => rw [getTextL_none hg] at h; cases h
    | some x =>
      obtain ⟨u, m⟩ := x
      rw [getTextL_some hg] at h
      split at h
      · rename_i hc
        injection h with h
        injection h with h1 h2
        obtain ⟨e1, e2, e3, e4⟩ := getL_iff.1 hg
        have hlen : t.length = u := by rw [← h1, List.length_take, List.length_drop]; omega
        subst h2
        rw [hlen, List.length_append, ← e2, hlen]
        refine ⟨hc.1, rfl, ?_, by omega⟩
        rw [e3, ← h1, List.take_add]
      · cases h
  · rintro ⟨h1, rfl, h3, h4⟩
    have hu : U64 t.length := by
      rw [List.length_append] at h4
      exact Nat.lt_of_le_of_lt (by omega) hl
    have hlen : (putL t.length ++ t).length = (putL t.length).length + t.length := List.length_append
    have hg : getL l = some (t.length, (putL t.length).length) := by
      refine getL_iff.2 ⟨hu, rfl, ?_, by omega⟩
      have := congrArg (List.take (putL t.length).length) h3
      rw [List.take_left, List.take_take, Nat.min_eq_left (by omega)] at this
      exact this
    rw [getTextL_some hg, if_pos ⟨h1, by omega⟩]
    have : t = (l.drop (putL t.length).length).take t.length := by
      have := congrArg (List.drop (putL t.length).length) h3
      rw [List.drop_left, hlen, List.drop_take] at this
      rw [Nat.add_sub_cancel_left] at this
      exact this
    rw [hlen]
    congr 2
    exact this.symm
end Go.Dm
namespace Go.Proofs.Ytibimbcjnjefdaa
open Go.RowKit Go.Dm

end Go.Proofs.Ytibimbcjnjefdaa

namespace Go.Dm
open Go Go.RowKit
theorem or128m (x : Nat) : Go.bits BinOp.or IntKind.u8 ((x : Int) % 128) 128 = ((UInt8.ofNat (x % 128 + 128)).toNat : Int) := by
  have := or128 (x % 128) (by omega)
  rw [u8_ofNat (by omega), show ((x : Int) % 128) = ((x % 128 : Nat) : Int) by omega, this]
  omega
/-- 'string(b)' of a slice that reads so. -/
theorem run_string_sl {P : Program} {w : World} {src dst e : Nat} {v : Value} {n : Nat} {l : Bs} (hs : P.underlying src = some (.slice e)) (he : P.underlying e = some (.int .u8)) (hd : P.underlying dst = some .string)
    (h : Sl w 1 v n (bCells l)) (hn : n = l.length) (hl : l ≠ []) : (convert src dst v).run P w = .ok (.string ⟨l.toArray⟩) w := by
  subst hn
  obtain ⟨p, cap, rfl, _, _, _, hx⟩ := h.2
  have h0 : 0 < l.length := List.length_pos_iff.2 hl
  obtain ⟨b, off, rfl, hb, hc⟩ := hx.resolve_left (by omega)
  exact run_convert_bytes_back w src dst e ⟨b, off, none⟩ cap l hs he hd (fun j hj => by
    have := hc j (.int .u8 (l[j].toNat : Int)) (by simp [bCells, hj])
    unfold Addr.add
    split
    · rename_i h0; subst h0; simpa using this
    · exact this)
end Go.Dm
namespace Go.Proofs.Ytibimbcjnjefdaa
open Go.RowKit Go.Dm

end Go.Proofs.Ytibimbcjnjefdaa

namespace Go.Dm
open Go Go.RowKit
theorem getI_none {l : Bs} {p : Nat} (h : getL (l.drop p) = none) : getI l p = (0, 0, false) := by
  unfold getI
  split
  · rfl
  · rw [Int.toNat_natCast, h]
theorem getI_some {l : Bs} {p u n : Nat} (hp : p < l.length) (h : getL (l.drop p) = some (u, n)) : getI l p = (u, (p : Int) + n, true) := by
  rw [getI_in hp, h]
theorem wrap_nine {L : Bs} {b : Nat} (hb : b = bAt L 9) (h : U64 (scanV L 10)) : IntKind.u64.wrap (((scanV L 9 : Nat) : Int) + (b : Int) % 128 * 9223372036854775808) = ((scanV L 10 : Nat) : Int) := by
  have h2 : scanV L 10 = scanV L 9 + (bAt L 9 % 128) * 128 ^ 9 := rfl
  rw [show (128 : Nat) ^ 9 = 9223372036854775808 by decide, ← hb] at h2
  have h' : scanV L 10 < 18446744073709551616 := h
  rw [show ((scanV L 9 : Nat) : Int) + (b : Int) % 128 * 9223372036854775808 = ((scanV L 10 : Nat) : Int) by omega]
  simp only [IntKind.wrap, IntKind.bits, IntKind.signed]
  simp; omega
end Go.Dm
namespace Go.Proofs.Ytibimbcjnjefdaa
open Go.RowKit Go.Dm

end Go.Proofs.Ytibimbcjnjefdaa

namespace Go.Proofs.Ytibimbcjnjefdaa
open Go.RowKit Go.Dm

end Go.Proofs.Ytibimbcjnjefdaa

namespace Go.Dm
open Go Go.RowKit

theorem count_round {l : Bs} {at' k : Nat} (h : at' < l.length) (hk : countL l = k + countL (l.drop at')) : countL l = (k + 1) + countL (l.drop (at' + wideL (l.drop at'))) ∧ at' + wideL (l.drop at') ≤ l.length ∧ max (longL (l.drop at')) 1 = wideL (l.drop at') ∧ 1 ≤ wideL (l.drop at') := by
  have hne : l.drop at' ≠ [] := by rw [Ne, List.drop_eq_nil_iff]; omega
  have h1 := wideL_le hne
  rw [List.length_drop] at h1
  refine ⟨?_, by omega, long_max hne, wideL_pos _⟩
  rw [hk, countL_step hne, List.drop_drop]; omega
end Go.Dm
namespace Go.Proofs.Ytibimbcjnjefdaa
open Go.RowKit Go.Dm

theorem letterR_one {s : ByteArray} (h1 : s.size = 1) : letterR s.data.toList = (decide (97 ≤ bAt s.data.toList 0) && decide (bAt s.data.toList 0 ≤ 122)) := by
  unfold letterR; rw [← size_len, if_pos h1]

end Go.Proofs.Ytibimbcjnjefdaa

namespace Go.Dm
open Go Go.RowKit
theorem rightLab_long {L : List PairL} (h : ¬ L.length ≤ 8) : rightLab L = false := by
  rw [Bool.eq_false_iff, Ne, rightLab_iff]
  exact fun hh => h hh.1
theorem join_snocC {c : UInt8} : ∀ {ns : List Bs} (p : Bs), ns ≠ [] → Lib.join (ns ++ [p]) [c] = Lib.join ns [c] ++ c :: p
  | [], _, h => absurd rfl h
  | [q], p, _ => by simp [Lib.join_cons, Lib.joinTail]
  | q :: r :: ns, p, _ => by
    have e : ∀ l : List Bs, Lib.join (q :: r :: l) [c] = q ++ c :: Lib.join (r :: l) [c] := fun l => by simp [Lib.join_cons, Lib.joinTail]
    rw [List.cons_append, List.cons_append, e, ← List.cons_append, join_snocC p (by simp), e]
    simp
/-- A text of a few labels. -/
def shows (L : List PairL) : Bs := Lib.join (L.map showP) [44]
theorem shows_one (p : PairL) : shows [p] = showP p := Lib.join_one _ _
theorem shows_snoc {L : List PairL} (p : PairL) (h : L ≠ []) : shows (L ++ [p]) = shows L ++ 44 :: showP p := by
  unfold shows
  rw [List.map_append, List.map_cons, List.map_nil, join_snocC _ (by simpa using h)]
theorem take_snocL {L : List PairL} {k : Nat} (hk : k < L.length) : L.take (k + 1) = L.take k ++ [plAt L k] := by
  rw [List.take_succ_eq_append_getElem hk]
  simp [hk, plAt]
theorem shows_step0 {L : List PairL} (hk : 0 < L.length) : shows (L.take 1) = showP (plAt L 0) := by
  rw [take_snocL hk]; exact shows_one _
theorem shows_step {L : List PairL} {k : Nat} (h0 : 0 < k) (hk : k < L.length) : shows (L.take (k + 1)) = shows (L.take k) ++ 44 :: showP (plAt L k) := by
  rw [take_snocL hk, shows_snoc]
  intro e
  have := congrArg List.length e
  rw [List.length_take, List.length_nil] at this
  omega
theorem rightLab_at {l : List PairS} (h : rightLab (labL l) = true) {k : Nat} (hk : k < l.length) : (pairAt l k).1.size ≤ 32 ∧ (pairAt l k).2.size ≤ 32 := by
  have hm : pL (pairAt l k) ∈ labL l := List.mem_map_of_mem (pairAt_mem hk)
  have := rightLab_names h _ hm
  have h1 := right_len this.1
  have h2 := right_len this.2
  exact ⟨h1, h2⟩
end Go.Dm
namespace Go.Proofs.Ytibimbcjnjefdaa
open Go.RowKit Go.Dm

set_option maxHeartbeats 1000000 in
theorem mfind_w (l : List PairS) (key : ByteArray) (v : Value) (w : World) (hm : l.length ≤ 35184372088832) (hx : Pairs w v l) :
    Calls Try.prog 40 #[v, .string key] w fun e w' => e = .returned (.tuple #[.string (findB l key).1, .bool (findB l key).2]) ∧ Ext w w' := by
  obtain ⟨q, cap, rfl, _, _⟩ := hx.shape
  have hhit : ∀ k, k < l.length → (∀ j, j < k → keyIs key (pairAt l j) = false) → keyIs key (pairAt l k) = true → findB l key = ((pairAt l k).2, true) := fun k hk h1 h2 => by
    unfold findB; rw [firstP_hit noPair hk h1 h2]
  have hmiss : (∀ j, j < l.length → keyIs key (pairAt l j) = false) → findB l key = (⟨#[]⟩, false) := fun h => by
    unfold findB; rw [firstP_miss noPair h]
  generalize findB l key = F at *
  replace hhit := Lib.hid hhit
  replace hmiss := Lib.hid hmiss
  go_enter Try.func40, Try.ntmps40
  go_wp2
  go_loopw [6] (fun i' wr => ∃ k : Nat, k ≤ l.length ∧ i' = .int .i64 k ∧ Ext w wr ∧ Hid (∀ j, j < k → keyIs key (pairAt l j) = false)) (fun i' _ => l.length - (intOf i').toNat)
  case atStart => exact ⟨0, by omega, rfl, Ext.refl _, fun j hj => by omega⟩
  case round =>
    obtain ⟨k, hk, rfl, hb, HN⟩ := hrel
    by_cases hlt : k < l.length
    · obtain ⟨b, off, rfl, hbl, c0, c1⟩ := (hx.ext hb).at hlt
      cases hkey : keyIs key (pairAt l k) with
      | true =>
        have hz := Lib.hid (hhit.out k hlt HN.out hkey)
        have hkb : ((pairAt l k).1.toList == key.toList) = true := hkey
        clear hkey
        go_wp2
        go_ret2
        exact ⟨by rw [hz.out]; rfl, hb⟩
      | false =>
        have hkb : ((pairAt l k).1.toList == key.toList) = false := hkey
        have hN2 : Hid (∀ j, j < k + 1 → keyIs key (pairAt l j) = false) := fun j hj => by
          rcases Nat.lt_succ_iff_lt_or_eq.1 hj with h | rfl
          · exact HN.out j h
          · exact hkey
        clear hkey
        go_wp2
        go_roundw
        case rel => exact ⟨k + 1, by omega, by go_num, hb, hN2⟩
        case measure => simp [intOf]; omega
    · obtain rfl : k = l.length := by omega
      have hz := Lib.hid (hmiss.out HN.out)
      go_wp2
      go_ret2
      exact ⟨by rw [hz.out]; rfl, hb⟩

end Go.Proofs.Ytibimbcjnjefdaa
