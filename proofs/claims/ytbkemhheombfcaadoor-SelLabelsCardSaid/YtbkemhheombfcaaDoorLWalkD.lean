/- Chapter 4: the walk of the program's Parse. -/
import Derived.Test.YtbkemhheombfcaaDoorLWalkC
import Derived.Test.YtbkemhheombfcaaDoorSplit
import Derived.Test.YtbkemhheombfcaaDoorVars
import Derived.Laws.StructEq
namespace Go.Dm
open Go Go.RowKit

/-- A label of a text. -/
def readP (x : Bs) : PairL := ((cutC 61 x).1, (cutC 61 x).2.1)
/-- P4.2: the labels of a text. -/
def parsedLab (t : Bs) : List PairL := (splitC 44 t).map readP
def parseLab (t : Bs) : List PairL × Bool := if t = [45] then ([], true) else if rightLab (parsedLab t) = true then (parsedLab t, true) else ([], false)

theorem parseLab_none : parseLab [45] = ([], true) := rfl
theorem parseLab_bad {t : Bs} (h : t ≠ [45]) (hr : rightLab (parsedLab t) = false) : parseLab t = ([], false) := by
  unfold parseLab; rw [if_neg h, hr]; rfl
theorem parseLab_good {t : Bs} (h : t ≠ [45]) (hr : rightLab (parsedLab t) = true) : parseLab t = (parsedLab t, true) := by
  unfold parseLab; rw [if_neg h, hr]; rfl

def cutB (x : ByteArray) : PairS := (⟨(cutC 61 x.data.toList).1.toArray⟩, ⟨(cutC 61 x.data.toList).2.1.toArray⟩)
theorem cutB_bytes (x : ByteArray) : pL (cutB x) = readP x.data.toList := by simp [pL, cutB, readP]
theorem cutB_all (ss : List ByteArray) : labL (ss.map cutB) = (bytesOf ss).map readP := by
  simp only [labL, bytesOf, List.map_map]
  exact List.map_congr_left fun x _ => cutB_bytes x

theorem pairs_right_ne {l : List PairS} (h : rightLab (labL l) = true) : ∀ k, k < l.length → (pairAt l k).1 ≠ ⟨#[]⟩ := by
  intro k hk e
  have := (rightLab_iff.1 h).2 k (by rw [labL_len]; exact hk)
  unfold okLab at this
  simp only [Bool.and_eq_true] at this
  rw [labL_at l hk] at this
  have h1 := this.1
  rw [show (pL (pairAt l k)).1 = [] by unfold pL; rw [e], right_nil] at h1
  cases h1
end Go.Dm
namespace Go.Proofs.YtbkemhheombfcaaDoor
open Go.RowKit Go.Dm

theorem Tryd.eq_pair (a b c d : ByteArray) (w : World) : (Op.equalIn 10000 29 (.agg #[.string a, .string b]) (.agg #[.string c, .string d])).run Tryd.prog w = .ok (a.toList == c.toList && b.toList == d.toList) w := by
  rw [show (10000 : Nat) = 9999 + 1 from rfl, run_equalIn_agg w 9999 29 _ _ (by kernel_rfl) (by kernel_rfl)]
  simp only [Program.fieldsOf, Tryd.underlying29]
  cases h1 : (a.toList == c.toList) <;> cases h2 : (b.toList == d.toList) <;>
  simp [Op.eqFields, go_sem, h1, h2]

set_option maxHeartbeats 1000000 in
theorem indexNone_w (l : List PairS) (v : Value) (w : World) (hm : l.length ≤ 35184372088832) (hne : ∀ k, k < l.length → (pairAt l k).1 ≠ ⟨#[]⟩) (hx : Pairs w v l) :
    Calls Tryd.prog 95 #[v, .agg #[.string ⟨#[]⟩, .string ⟨#[]⟩]] w fun e w' => e = .returned (.int .i64 (-1)) ∧ Ext w w' := by
  obtain ⟨q, cap, rfl, _, _⟩ := hx.shape
  have hW : Ext w (w.alloc (.cells #[.string ⟨#[]⟩, .string ⟨#[]⟩] 29)) := (Ext.refl _).alloc _
  replace hne := Lib.hid hne
  go_enter Tryd.func95, Tryd.ntmps95
  go_wp2
  go_loopw [4, 8] (fun z i wr => ∃ k : Nat, k ≤ l.length ∧ i = .int .i64 k ∧ z = .int .i64 0 ∧ Ext (w.alloc (.cells #[.string ⟨#[]⟩, .string ⟨#[]⟩] 29)) wr) (fun _ i _ => l.length - (intOf i).toNat)
  case atStart => exact ⟨0, by omega, rfl, rfl, Ext.refl _⟩
  case round =>
    obtain ⟨k, hk, rfl, rfl, hb⟩ := hrel
    obtain ⟨gs, g⟩ := hb.box
    have g0 := g 0 _ rfl
    have g1 := g 1 _ rfl
    clear g
    by_cases hlt : k < l.length
    · obtain ⟨b, off, rfl, hbl, c0, c1⟩ := (hx.ext (hW.trans hb)).at hlt
      have hn := hne.out k hlt
      have hq : ∀ U, (Op.equalIn 10000 29 (.agg #[.string ⟨#[]⟩, .string ⟨#[]⟩]) (.agg #[.string (pairAt l k).1, .string (pairAt l k).2])).run Tryd.prog U = .ok false U := fun U => by
        rw [Tryd.eq_pair]
        congr 1
        rw [Bool.and_eq_false_iff]
        left
        rw [Bool.eq_false_iff, Ne, bytes_eq]
        exact fun e => hn e.symm
      clear hn
      go_wp2_with fail
      refine Dm.wp_region_grow (by kernel_rfl) (by kernel_rfl) ?_
      repeat (go_big_quiet_step (fail))
      refine wpQuiet_nil ?_
      intro U hU
      have hU' := hb.trans hU
      go_wp2
      go_roundw
      case rel => exact ⟨k + 1, by omega, by go_num, rfl, hU'⟩
      case measure => simp [intOf]; omega
    · go_wp2
      go_ret
      exact ⟨rfl, hW.trans hb⟩

set_option maxHeartbeats 400000 in
theorem containsNone_w (l : List PairS) (v : Value) (w : World) (hm : l.length ≤ 35184372088832) (hne : ∀ k, k < l.length → (pairAt l k).1 ≠ ⟨#[]⟩) (hx : Pairs w v l) :
    Calls Tryd.prog 64 #[v, .agg #[.string ⟨#[]⟩, .string ⟨#[]⟩]] w fun e w' => e = .returned (.bool false) ∧ Ext w w' := by
  obtain ⟨q, cap, rfl, _, _⟩ := hx.shape
  have hW : Ext w (w.alloc (.cells #[.string ⟨#[]⟩, .string ⟨#[]⟩] 29)) := (Ext.refl _).alloc _
  have C := indexNone_w l _ _ hm hne (hx.ext hW)
  clear hne
  go_enter Tryd.func64, Tryd.ntmps64
  go_wp2_with fail
  refine C.mono ?_; rintro e w1 ⟨rfl, h1⟩
  go_wp2
  go_ret
  exact ⟨rfl, hW.trans h1⟩

set_option maxHeartbeats 4000000 in
set_option maxRecDepth 100000 in
theorem lparse_w (t : ByteArray) (w : World) (hs : t.size < 4294967281) (ht : Vars w) :
    Calls Tryd.prog 26 #[.string t] w fun e w' => ∃ r l b, e = .returned (.tuple #[r, .bool b]) ∧ Pairs w' r l ∧ (labL l, b) = parseLab t.data.toList ∧ FitP l ∧ l.length ≤ 8 ∧ Ext w w' := by
  by_cases h45 : t.data.toList = [45]
  · obtain rfl : t = ⟨#[45]⟩ := mk_bytes h45
    clear h45
    go_enter Tryd.func26, Tryd.ntmps26
    go_wp2
    go_ret2
    exact ⟨_, [], true, rfl, Pairs.nil _, rfl, FitP.nil, by simp, Ext.refl _⟩
  · have hXt : (t.toList == [45]) = false := by rw [ByteArray.toList_eq, beq_eq_false_iff_ne]; exact h45
    have hXt' : ¬ t.toList = [45] := by rw [ByteArray.toList_eq]; exact h45
    obtain ⟨m, hm⟩ := ht.most
    have hlen := splitB_bytesC t 44
    have hall := Lib.splitB_all ⟨#[44]⟩ (by decide) 0 (Lib.countB t ⟨#[44]⟩) t rfl
    have hcl : Lib.countB t ⟨#[44]⟩ ≤ t.size := Lib.countB_le ⟨#[44]⟩ (by decide) t.size t (Nat.le_refl _)
    have C := Tryd.strings_Split t ⟨#[44]⟩ m w hs hm (by decide)
    rw [← hall] at C
    generalize hss : Lib.splitB ⟨#[44]⟩ 0 (Lib.countB t ⟨#[44]⟩) t = ss at C hlen hall
    clear hss
    have hz : ∀ k, k < ss.length → (strAt ss k).size ≤ t.size := by
      intro k hk
      have h1 : (strAt ss k).data.toList ∈ splitC 44 t.data.toList := by rw [← hlen]; exact List.mem_map_of_mem (strAt_mem hk)
      have := mem_splitC_len h1
      rw [← size_len, ← size_len] at this
      exact this
    have hl : ss.length ≤ 4294967281 := by omega
    have hal : Ext w (w.alloc (.cells (ss.map Value.string).toArray 9)) := (Ext.refl w).alloc _
    have hx : Strs (w.alloc (.cells (ss.map Value.string).toArray 9)) (.slice (some ⟨w.heap.size, 0, none⟩) ss.length ss.length) ss := by
      have := Sl.lit w 9 1 ss.length (ss.map Value.string).toArray (by simp) (by simp [maxLen]; omega)
      simpa [Strs] using this
    have hfit : ∀ k, FitP ((ss.take k).map cutB) := by
      intro k p hp
      obtain ⟨x, hx, rfl⟩ := List.mem_map.1 hp
      obtain ⟨j, hj, e⟩ := List.getElem_of_mem (List.mem_of_mem_take hx)
      have h1 := hz j hj
      have h2 : strAt ss j = x := by simp [strAt, hj, e]
      rw [h2] at h1
      have h3 := cutC_len 61 x.data.toList
      rw [← size_len] at h3
      constructor
      · show (cutB x).1.size ≤ _
        rw [size_len]
        have : (cutB x).1.data.toList = (cutC 61 x.data.toList).1 := rfl
        rw [this]; omega
      · show (cutB x).2.size ≤ _
        rw [size_len]
        have : (cutB x).2.data.toList = (cutC 61 x.data.toList).2.1 := rfl
        rw [this]; omega
    have hpl : labL (ss.map cutB) = parsedLab t.data.toList := by rw [cutB_all, hlen]; rfl
    have h0 : 0 < ss.length := by
      have := splitC_ne 44 t.data.toList
      rw [← hlen] at this
      have : (bytesOf ss).length ≠ 0 := fun h => this (List.length_eq_zero_iff.1 h)
      rw [bytesOf, List.length_map] at this
      omega
    clear hall hcl hlen
    replace hz := Lib.hid hz
    replace hfit := Lib.hid hfit
    replace hpl := Lib.hid hpl
    replace h45 := Lib.hid h45
    go_enter Tryd.func26, Tryd.ntmps26
    go_wp2_with fail
    refine C.mono ?_; rintro e w1 ⟨rfl, rfl⟩
    clear C
    generalize hW : w.alloc (.cells (ss.map Value.string).toArray 9) = W at hx hal
    clear hW
    go_wp2
    go_loopw [4, 15] (fun v i' wr => ∃ k : Nat, k ≤ ss.length ∧ i' = .int .i64 k ∧ Ext W wr ∧ wr.ownsRow W.heap.size 29 2 v k (pairCells ((ss.take k).map cutB))) (fun _ i' _ => ss.length - (intOf i').toNat)
    case atStart => exact ⟨0, by omega, rfl, Ext.refl _, World.ownsRow_nil _ _ _ _⟩
    case round =>
      obtain ⟨k, hk, rfl, hb, ho⟩ := hrel
      have er := hal.trans hb
      by_cases hlt : k < ss.length
      · obtain ⟨hbl, c0⟩ := (hx.ext hb).cells hlt
        rw [Nat.zero_add] at c0
        have hzk := hz.out k hlt
        obtain ⟨m', hm'⟩ := (ht.ext er).most
        have C := Tryd.strings_Cut (strAt ss k) ⟨#[61]⟩ m' wr (by omega) hm'
        rw [show (⟨#[61]⟩ : ByteArray).data.toList = [61] from rfl, cut_eqC] at C
        replace C : Calls Tryd.prog 63 #[.string (strAt ss k), .string ⟨#[61]⟩] wr fun e w' => e = .returned (.tuple #[.string (cutB (strAt ss k)).1, .string (cutB (strAt ss k)).2, .bool (cutC 61 (strAt ss k).data.toList).2.2]) ∧ ∃ n, w' = wr.drewN n := C
        have hsn : (ss.take (k + 1)).map cutB = (ss.take k).map cutB ++ [cutB (strAt ss k)] := by
          rw [List.take_succ_eq_append_getElem hlt, List.map_append]
          simp [strAt, hlt]
        replace hsn := Lib.hid hsn
        generalize cutB (strAt ss k) = P at *
        go_wp2_with fail
        refine C.mono ?_; rintro e w2 ⟨rfl, n, hw2⟩
        have h2 : Ext wr w2 := by rw [hw2]; exact (Below.refl _ _).trans ⟨rfl, rfl, rfl, Nat.le_refl _, fun _ _ => rfl⟩
        clear C hw2
        have hb2 := hb.trans h2
        have ho4 := Ext.row (Ext.row ho h2) ((Ext.refl w2).alloc (.cells #[.string P.1, .string P.2] 29))
        have hb4 := hb2.trans ((Ext.refl w2).alloc (.cells #[.string P.1, .string P.2] 29))
        have hl4 := Sl.lit w2 29 2 1 #[.string P.1, .string P.2] rfl (by simp [maxLen])
        clear ho
        go_wp2_with (at_builtin; refine wpList_appE rfl _ _ Tryd.slPair rfl hb4 rfl ho4 rfl hl4 (pairCells_one [P]) (by omega) ?_; intro v5 w5 ho5 hb5 _)
        go_roundw
        case rel => exact ⟨k + 1, by omega, by go_num, hb5, by rw [hsn.out, pairCells_app]; exact ho5⟩
        case measure => simp [intOf]; omega
      · obtain rfl : k = ss.length := by omega
        rw [List.take_length] at ho
        have hP : Pairs wr _ (ss.map cutB) := Pairs.of_row ho (by simp)
        have hF := hfit.out ss.length
        rw [List.take_length] at hF
        have hll : (ss.map cutB).length = ss.length := List.length_map _
        have CR := lright_w (ss.map cutB) _ wr (by rw [hll]; omega) hF hP (ht.tabs.ext er)
        rw [hpl.out] at CR
        cases hR : rightLab (parsedLab t.data.toList) with
        | false =>
          have hz' := Lib.hid (parseLab_bad h45.out hR)
          rw [hR] at CR
          clear hR
          go_wp2_with fail
          refine CR.mono ?_; rintro e w3 ⟨rfl, h3⟩
          go_wp2
          go_ret2
          exact ⟨_, [], false, rfl, Pairs.nil _, by rw [hz'.out]; rfl, FitP.nil, by simp, er.trans h3⟩
        | true =>
          have hz' := Lib.hid (parseLab_good h45.out hR)
          have hne := pairs_right_ne (l := ss.map cutB) (by rw [hpl.out]; exact hR)
          have h8 := (rightLab_iff.1 hR).1
          rw [← hpl.out, labL_len] at h8
          rw [hR] at CR
          clear hR
          go_wp2_with fail
          refine CR.mono ?_; rintro e w3 ⟨rfl, h3⟩
          have hP3 := hP.ext h3
          go_wp2_with fail
          refine (containsNone_w (ss.map cutB) _ w3 (by omega) hne hP3).mono ?_; rintro e w4 ⟨rfl, h4⟩
          go_wp2
          go_ret2
          exact ⟨_, ss.map cutB, true, rfl, hP3.ext h4, by rw [hz'.out, hpl.out], hF, h8, er.trans (h3.trans h4)⟩

end Go.Proofs.YtbkemhheombfcaaDoor
