/- Texts of the base. -/

import Derived.Test.YtefjdmjkofaajaaGreatDoorT42
import Derived.Test.YtefjdmjkofaajaaGreatDoorT35
import Derived.Test.YtefjdmjkofaajaaGreatDoorT38
import Derived.Test.YtefjdmjkofaajaaGreatDoorRows
import Derived.LaidLaws
import Derived.Lib.LaidTab
import Derived.MakeChecks
import Derived.ProofKit
import Derived.Deep.SlicePairs
import Derived.Lib.SmallJoins
import Derived.SizedLaws
namespace Go.Dm
open Go Go.RowKit Go.ChangeShapes Go.WideShapes
theorem cavC_at (xs : List Cav) (k : Nat) (hk : k < xs.length) : (cavC xs)[k * 2]? = some (.int .i64 (xs.getD k (0, 0)).1) ∧ (cavC xs)[k * 2 + 1]? = some (.int .u64 ((xs.getD k (0, 0)).2 : Nat)) := by
 induction xs generalizing k with
 | nil => simp at hk
 | cons x l ih =>
  cases k with
  | zero => exact ⟨rfl, rfl⟩
  | succ k =>
   have h := ih k (by simpa using hk)
   have e1 : (k + 1) * 2 = k * 2 + 2 := by omega
   have e2 : (k + 1) * 2 + 1 = (k * 2 + 1) + 2 := by omega
   rw [e2, e1]
   exact h
section
variable {H : Type} {enc : TypeId × Value → H} {P : Program} {W : World}
theorem cavs_of_trod {t e : TypeId} {f0 f1 : Field} (ht : P.underlying t = some (.slice e)) (he : P.underlying e = some (.struct #[f0, f1]))
  (ce : P.cellsOf e = 2) (o0 : f0.offset = 0) (o1 : f1.offset = 1) (c0 : P.cellsOf f0.type = 1) (c1 : P.cellsOf f1.type = 1)
  (u0 : P.underlying f0.type = some (.int .i64)) (u1 : P.underlying f1.type = some (.int .u64))
  {a : Option Addr} {len cap : Nat} {d : DataW H} {ps : List MemPlace} (h : DataW.Trod enc P W 0 (fun _ => true) true t (.slice a len cap) d ps) :
  ∃ xs : List Cav, Cavs W (.slice a len cap) xs ∧ ∀ c ∈ xs, U64 c.2 := by
 obtain ⟨fuel, hf⟩ := h
 rcases Deep.open_slice_pairs ht he ce o0 o1 c0 c1 hf with ⟨hcs, hx⟩ | ⟨a', len', cap', m, n, V0, V1, D0, D1, P0, P1, hcs, _, hl, hm, hmm, hx, hall⟩
 ·simp [Value.cells] at hcs
  obtain ⟨rfl, rfl, rfl⟩ := hcs
  exact ⟨[], Sl.nil W 2, fun c hc => by cases hc⟩
 ·simp [Value.cells] at hcs
  obtain ⟨rfl, rfl, rfl⟩ := hcs
  simp only [if_true] at hmm
  subst hmm
  have hz : ∀ i, i < m → ∃ x : Cav, W.cell? (a'.add (i * 2)) = some (.int .i64 x.1) ∧ W.cell? (a'.add (i * 2 + 1)) = some (.int .u64 (x.2 : Nat)) ∧ U64 x.2 := by
   intro i hi
   obtain ⟨g0, g1, g2, g3⟩ := hall i hi
   obtain ⟨z0, e0, _, _⟩ := DataW.trod_int u0 g2
   obtain ⟨z1, e1, _, w1⟩ := DataW.trod_int u1 g3
   simp at e0 e1
   simp [Lit.wf, IntKind.min, IntKind.max, IntKind.signed, IntKind.bits] at w1
   obtain ⟨n1, rfl⟩ : ∃ n : Nat, z1 = n := ⟨z1.toNat, by omega⟩
   exact ⟨(z0, n1), by rw [g0, e0], by rw [g1, e1], by show n1 < 18446744073709551616; omega⟩
  obtain ⟨F, hF⟩ := Deep.choose_lt hz
  refine ⟨(List.range len).map F, ?_, fun c hc => ?_⟩
  ·have hlen : ((List.range len).map F).length = len := by simp
   refine ⟨by rw [cavC_len], some a', m, by rw [hlen], by omega, hm, by simp, ?_⟩
   by_cases h0 : len = 0
   ·exact Or.inl (by simp [h0])
   ·right
    obtain ⟨b, off, spot⟩ := a'
    have hs := World.cell?_spot (hF 0 (by omega)).1
    have hspot : spot = none := by simpa [Addr.add] using hs
    subst hspot
    have hb := World.block_lt_of_cell? W _ (hF 0 (by omega)).1
    refine ⟨b, off, rfl, by simpa [Addr.add] using hb, fun j u hj => ?_⟩
    have hjl : j < len * 2 := by
     have := (List.getElem?_eq_some_iff.1 hj).1
     rw [cavC_len, hlen] at this
     exact this
    obtain ⟨k, hk⟩ : ∃ k, j = k * 2 ∨ j = k * 2 + 1 := ⟨j / 2, by omega⟩
    have hkl : k < len := by omega
    have hat := cavC_at ((List.range len).map F) k (by rw [hlen]; exact hkl)
    have hent : ((List.range len).map F).getD k (0, 0) = F k := by simp [hkl]
    rw [hent] at hat
    have hc := hF k (by omega)
    have e0 : (⟨b, off, none⟩ : Addr).add (k * 2) = ⟨b, off + k * 2, none⟩ := by unfold Addr.add; split <;> simp_all
    have e1 : (⟨b, off, none⟩ : Addr).add (k * 2 + 1) = ⟨b, off + (k * 2 + 1), none⟩ := by unfold Addr.add; split <;> simp_all
    rcases hk with rfl | rfl
    ·rw [← e0, hc.1, ← hat.1, hj]
    ·rw [← e1, hc.2.1, ← hat.2, hj]
  ·obtain ⟨i, hi, rfl⟩ := List.mem_map.1 hc
   exact (hF i (by have := List.mem_range.1 hi; omega)).2.2
end
end Go.Dm
namespace Go.Proofs.YtefjdmjkofaajaaGreatDoor
open Go.RowKit Go.Dm Go.ChangeShapes Go.WideShapes
abbrev LAIDG : List (String × DataW Unit) := [("unicode/utf8.acceptRanges", Rows.laid_unicode_utf8_acceptRanges), ("demesne/sha.start", Rows.laid_demesne_sha_start), ("demesne/sha.rounds", Rows.laid_demesne_sha_rounds), ("demesne/word.letters", Rows.laid_demesne_word_letters), ("demesne/word.marks", Rows.laid_demesne_word_marks), ("demesne/gate.rights", Rows.laid_demesne_gate_rights), ("unicode/utf8.first", Rows.laid_unicode_utf8_first)]
def rightsZ : List Int := [0, 1, 1, 4, 2, 2, 2, 2, 2]
set_option maxRecDepth 100000 in
theorem start_data : (Rows.laid_demesne_sha_start : DataW Unit) = Lib.tabData .u32 startW := rfl
theorem rounds_data : (Rows.laid_demesne_sha_rounds : DataW Unit) = Lib.tabData .u32 roundsW := rfl
theorem rights_data : (Rows.laid_demesne_gate_rights : DataW Unit) = Lib.tabData .u64 rightsZ := rfl
theorem varsA_of_laid {W : World} (h : laidMetH Tryz.prog LAIDG W) (hsh : W.ShapedOpen Tryz.prog) : Vars W := by
 rw [MakeChecks.laidMetH_plain _ _ _ (by kernel_rfl)] at h
 obtain ⟨ps, ⟨g0, t0, cs0, f0, p0, q0, hg0, ht0, hv0, hd0, ⟨g1, t1, cs1, f1, p1, q1, hg1, ht1, hv1, hd1, ⟨g2, t2, cs2, f2, p2, q2, hg2, ht2, hv2, hd2, ⟨g3, t3, cs3, f3, p3, q3, hg3, ht3, hv3, hd3, ⟨g4, t4, cs4, f4, p4, q4, hg4, ht4, hv4, hd4, ⟨g5, t5, cs5, f5, p5, q5, hg5, ht5, hv5, hd5, _, _⟩, _⟩, _⟩, _⟩, _⟩, _⟩, _, _⟩ := h
 obtain rfl := Option.some.inj ((show Tryz.prog.globalNamed "demesne/word.letters" = some 1 by kernel_rfl).symm.trans hg3)
 obtain rfl := Option.some.inj ((show Tryz.prog.globalNamed "demesne/word.marks" = some 2 by kernel_rfl).symm.trans hg4)
 obtain rfl := Option.some.inj ((show (Tryz.prog.globals[1]?).map (·.type) = some 165 by kernel_rfl).symm.trans ht3)
 obtain rfl := Option.some.inj ((show (Tryz.prog.globals[2]?).map (·.type) = some 166 by kernel_rfl).symm.trans ht4)
 have L := pairs_of_trod (l := letters) Tryz.underlying165 Tryz.underlying164 (by kernel_rfl) rfl rfl (by kernel_rfl) (by kernel_rfl) Tryz.underlying21 Tryz.underlying21 hd3
 have M := pairs_of_trod (l := marks) Tryz.underlying166 Tryz.underlying164 (by kernel_rfl) rfl rfl (by kernel_rfl) (by kernel_rfl) Tryz.underlying21 Tryz.underlying21 hd4
 have cl : ∀ (j : Nat) (u : Value), (spanCells letters)[j]? = some u → W.cell? ⟨1, j, none⟩ = some u := fun j u hj => by
  rw [World.var?_cell hg3 hv3 j, ← Array.getElem?_toList]
  exact cells_spans L.2 j u hj
 have cm : ∀ (j : Nat) (u : Value), (spanCells marks)[j]? = some u → W.cell? ⟨2, j, none⟩ = some u := fun j u hj => by
  rw [World.var?_cell hg4 hv4 j, ← Array.getElem?_toList]
  exact cells_spans M.2 j u hj
 refine ⟨⟨spans_of_cells (by decide) cl (World.block_lt_of_cell? _ _ (cl 0 _ rfl)), spans_of_cells (by decide) cm (World.block_lt_of_cell? _ _ (cm 0 _ rfl))⟩, ?_⟩
 exact Tryz.laysM146.s1_3 W hsh
set_option maxRecDepth 100000 in
theorem varsS_of_laid {W : World} (h : laidMetH Tryz.prog LAIDG W) : ShaV W := by
 rw [MakeChecks.laidMetH_plain _ _ _ (by kernel_rfl)] at h
 obtain ⟨ps, ⟨g0, t0, cs0, f0, p0, q0, hg0, ht0, hv0, hd0, ⟨g1, t1, cs1, f1, p1, q1, hg1, ht1, hv1, hd1, ⟨g2, t2, cs2, f2, p2, q2, hg2, ht2, hv2, hd2, ⟨g3, t3, cs3, f3, p3, q3, hg3, ht3, hv3, hd3, ⟨g4, t4, cs4, f4, p4, q4, hg4, ht4, hv4, hd4, ⟨g5, t5, cs5, f5, p5, q5, hg5, ht5, hv5, hd5, _, _⟩, _⟩, _⟩, _⟩, _⟩, _⟩, _, _⟩ := h
 obtain rfl := Option.some.inj ((show Tryz.prog.globalNamed "demesne/sha.start" = some 3 by kernel_rfl).symm.trans hg1)
 obtain rfl := Option.some.inj ((show (Tryz.prog.globals[3]?).map (·.type) = some 173 by kernel_rfl).symm.trans ht1)
 rw [start_data] at hd1
 have hcs1 := Lib.cells_of_tab Tryz.underlying173 Tryz.underlying172 (by kernel_rfl) (by kernel_rfl) hd1
 have c1 : ∀ {k : Nat}, k < 8 → W.cell? ⟨3, k, none⟩ = some (.int .u32 (startW.getD k 0)) := fun {k} hk => by
  rw [World.var?_cell hg1 hv1 k, ← Array.getElem?_toList, hcs1, List.getElem?_map, List.getD_eq_getElem?_getD, List.getElem?_eq_getElem (show k < startW.length from hk)]
  rfl
 obtain rfl := Option.some.inj ((show Tryz.prog.globalNamed "demesne/sha.rounds" = some 4 by kernel_rfl).symm.trans hg2)
 obtain rfl := Option.some.inj ((show (Tryz.prog.globals[4]?).map (·.type) = some 202 by kernel_rfl).symm.trans ht2)
 rw [rounds_data] at hd2
 have hcs2 := Lib.cells_of_tab Tryz.underlying202 Tryz.underlying172 (by kernel_rfl) (by kernel_rfl) hd2
 have c2 : ∀ {k : Nat}, k < 64 → W.cell? ⟨4, k, none⟩ = some (.int .u32 (roundsW.getD k 0)) := fun {k} hk => by
  rw [World.var?_cell hg2 hv2 k, ← Array.getElem?_toList, hcs2, List.getElem?_map, List.getD_eq_getElem?_getD, List.getElem?_eq_getElem (show k < roundsW.length from hk)]
  rfl
 exact ⟨World.block_lt_of_cell? _ _ (c2 (k := 0) (by omega)), c2, World.block_lt_of_cell? _ _ (c1 (k := 0) (by omega)), c1⟩
set_option maxRecDepth 100000 in
theorem varsG_of_laid {W : World} (h : laidMetH Tryz.prog LAIDG W) : GateV W := by
 rw [MakeChecks.laidMetH_plain _ _ _ (by kernel_rfl)] at h
 obtain ⟨ps, ⟨g0, t0, cs0, f0, p0, q0, hg0, ht0, hv0, hd0, ⟨g1, t1, cs1, f1, p1, q1, hg1, ht1, hv1, hd1, ⟨g2, t2, cs2, f2, p2, q2, hg2, ht2, hv2, hd2, ⟨g3, t3, cs3, f3, p3, q3, hg3, ht3, hv3, hd3, ⟨g4, t4, cs4, f4, p4, q4, hg4, ht4, hv4, hd4, ⟨g5, t5, cs5, f5, p5, q5, hg5, ht5, hv5, hd5, _, _⟩, _⟩, _⟩, _⟩, _⟩, _⟩, _, _⟩ := h
 obtain rfl := Option.some.inj ((show Tryz.prog.globalNamed "demesne/gate.rights" = some 0 by kernel_rfl).symm.trans hg5)
 obtain rfl := Option.some.inj ((show (Tryz.prog.globals[0]?).map (·.type) = some 86 by kernel_rfl).symm.trans ht5)
 rw [rights_data] at hd5
 have hcs5 := Lib.cells_of_tab Tryz.underlying86 Tryz.underlying25 (by kernel_rfl) (by kernel_rfl) hd5
 have c5 : ∀ {k : Nat}, k < 9 → W.cell? ⟨0, k, none⟩ = some (.int .u64 (rightsZ.getD k 0)) := fun {k} hk => by
  rw [World.var?_cell hg5 hv5 k, ← Array.getElem?_toList, hcs5, List.getElem?_map, List.getD_eq_getElem?_getD, List.getElem?_eq_getElem (show k < rightsZ.length from hk)]
  rfl
 refine ⟨World.block_lt_of_cell? _ _ (c5 (k := 0) (by omega)), fun {k} hk => ?_⟩
 rw [c5 hk]
 match k, hk with
 | 0, _ | 1, _ | 2, _ | 3, _ | 4, _ | 5, _ | 6, _ | 7, _ | 8, _ => rfl
 | k + 9, hk => omega
theorem openCavs {H : Type} {enc : TypeId × Value → H} {W : World} {a : Option Addr} {len cap : Nat} {d : DataW H} {ps : List MemPlace}
  (h : DataW.Trod enc Tryz.prog W 0 (fun _ => true) true 22 (.slice a len cap) d ps) : ∃ xs : List Cav, Cavs W (.slice a len cap) xs ∧ ∀ c ∈ xs, U64 c.2 :=
 cavs_of_trod Tryz.underlying22 Tryz.underlying38 (by kernel_rfl) rfl rfl (by kernel_rfl) (by kernel_rfl) Tryz.underlying3 Tryz.underlying25 h
end Go.Proofs.YtefjdmjkofaajaaGreatDoor
