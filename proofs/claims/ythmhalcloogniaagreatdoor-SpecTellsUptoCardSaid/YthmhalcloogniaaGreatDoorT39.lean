/- Texts one behind the other: Chapter 11: what the rows' list of variables gives the walks. -/
import Derived.Test.YthmhalcloogniaaGreatDoorT42
import Derived.Test.YthmhalcloogniaaGreatDoorT24
import Derived.Test.YthmhalcloogniaaGreatDoorT38
import Derived.Test.YthmhalcloogniaaGreatDoorRows
import Derived.LaidLaws
import Derived.Lib.LaidTab
import Derived.MakeChecks
namespace Go.Proofs.YthmhalcloogniaaGreatDoor
open Go.RowKit Go.Dm Go.ChangeShapes Go.WideShapes
abbrev LAIDX : List (String × DataW Unit) := [("math/bits.deBruijn32tab", Rows.laid_math_bits_deBruijn32tab), ("math/bits.deBruijn64tab", Rows.laid_math_bits_deBruijn64tab), ("internal/strconv.uint64pow10", Rows.laid_internal_strconv_uint64pow10), ("unicode/utf8.acceptRanges", Rows.laid_unicode_utf8_acceptRanges), ("strconv.ErrRange", Rows.laid_strconv_ErrRange), ("strconv.ErrSyntax", Rows.laid_strconv_ErrSyntax), ("demesne/word.letters", Rows.laid_demesne_word_letters), ("demesne/word.marks", Rows.laid_demesne_word_marks), ("unicode/utf8.first", Rows.laid_unicode_utf8_first)]
theorem pow10_dataX : (Rows.laid_internal_strconv_uint64pow10 : DataW Unit) = Lib.tabData .u64 Lib.pow10Tab := by
  simp [Lib.tabData, Lib.pow10Tab, List.range, List.range.loop, Rows.laid_internal_strconv_uint64pow10]
theorem varsA_of_laid {W : World} (h : laidMetH Tryz.prog LAIDX W) (hsh : W.ShapedOpen Tryz.prog) : Vars W := by
  rw [MakeChecks.laidMetH_plain _ _ _ (by kernel_rfl)] at h
  obtain ⟨ps, ⟨g0, t0, cs0, f0, p0, q0, hg0, ht0, hv0, hd0, ⟨g1, t1, cs1, f1, p1, q1, hg1, ht1, hv1, hd1, ⟨g2, t2, cs2, f2, p2, q2, hg2, ht2, hv2, hd2, ⟨g3, t3, cs3, f3, p3, q3, hg3, ht3, hv3, hd3, ⟨g4, t4, cs4, f4, p4, q4, hg4, ht4, hv4, hd4, ⟨g5, t5, cs5, f5, p5, q5, hg5, ht5, hv5, hd5, ⟨g6, t6, cs6, f6, p6, q6, hg6, ht6, hv6, hd6, ⟨g7, t7, cs7, f7, p7, q7, hg7, ht7, hv7, hd7, _, _⟩, _⟩, _⟩, _⟩, _⟩, _⟩, _⟩, _⟩, _, _⟩ := h
  obtain rfl := Option.some.inj ((show Tryz.prog.globalNamed "demesne/word.letters" = some 0 by kernel_rfl).symm.trans hg6)
  obtain rfl := Option.some.inj ((show Tryz.prog.globalNamed "demesne/word.marks" = some 1 by kernel_rfl).symm.trans hg7)
  obtain rfl := Option.some.inj ((show (Tryz.prog.globals[0]?).map (·.type) = some 178 by kernel_rfl).symm.trans ht6)
  obtain rfl := Option.some.inj ((show (Tryz.prog.globals[1]?).map (·.type) = some 179 by kernel_rfl).symm.trans ht7)
  have L := pairs_of_trod (l := letters) Tryz.underlying178 Tryz.underlying177 (by kernel_rfl) rfl rfl (by kernel_rfl) (by kernel_rfl) Tryz.underlying21 Tryz.underlying21 hd6
  have M := pairs_of_trod (l := marks) Tryz.underlying179 Tryz.underlying177 (by kernel_rfl) rfl rfl (by kernel_rfl) (by kernel_rfl) Tryz.underlying21 Tryz.underlying21 hd7
  have cl : ∀ (j : Nat) (u : Value), (spanCells letters)[j]? = some u → W.cell? ⟨0, j, none⟩ = some u := fun j u hj => by
    rw [World.var?_cell hg6 hv6 j, ← Array.getElem?_toList]
    exact cells_spans L.2 j u hj
  have cm : ∀ (j : Nat) (u : Value), (spanCells marks)[j]? = some u → W.cell? ⟨1, j, none⟩ = some u := fun j u hj => by
    rw [World.var?_cell hg7 hv7 j, ← Array.getElem?_toList]
    exact cells_spans M.2 j u hj
  refine ⟨⟨spans_of_cells (by decide) cl (World.block_lt_of_cell? _ _ (cl 0 _ rfl)), spans_of_cells (by decide) cm (World.block_lt_of_cell? _ _ (cm 0 _ rfl))⟩, ?_⟩
  exact Tryz.laysM146.s1_3 W hsh
theorem varsB_of_laid {W : World} (h : laidMetH Tryz.prog LAIDX W) (hsh : W.ShapedOpen Tryz.prog) : VarsV W := by
  rw [MakeChecks.laidMetH_plain _ _ _ (by kernel_rfl)] at h
  obtain ⟨ps, ⟨g0, t0, cs0, f0, p0, q0, hg0, ht0, hv0, hd0, ⟨g1, t1, cs1, f1, p1, q1, hg1, ht1, hv1, hd1, ⟨g2, t2, cs2, f2, p2, q2, hg2, ht2, hv2, hd2, ⟨g3, t3, cs3, f3, p3, q3, hg3, ht3, hv3, hd3, ⟨g4, t4, cs4, f4, p4, q4, hg4, ht4, hv4, hd4, ⟨g5, t5, cs5, f5, p5, q5, hg5, ht5, hv5, hd5, ⟨g6, t6, cs6, f6, p6, q6, hg6, ht6, hv6, hd6, ⟨g7, t7, cs7, f7, p7, q7, hg7, ht7, hv7, hd7, _, _⟩, _⟩, _⟩, _⟩, _⟩, _⟩, _⟩, _⟩, _, _⟩ := h
  obtain rfl := Option.some.inj ((show Tryz.prog.globalNamed "internal/strconv.uint64pow10" = some 5 by kernel_rfl).symm.trans hg2)
  obtain rfl := Option.some.inj ((show Tryz.prog.globalNamed "strconv.ErrRange" = some 3 by kernel_rfl).symm.trans hg4)
  obtain rfl := Option.some.inj ((show Tryz.prog.globalNamed "strconv.ErrSyntax" = some 2 by kernel_rfl).symm.trans hg5)
  obtain rfl := Option.some.inj ((show (Tryz.prog.globals[5]?).map (·.type) = some 202 by kernel_rfl).symm.trans ht2)
  obtain rfl := Option.some.inj ((show (Tryz.prog.globals[3]?).map (·.type) = some 84 by kernel_rfl).symm.trans ht4)
  obtain rfl := Option.some.inj ((show (Tryz.prog.globals[2]?).map (·.type) = some 84 by kernel_rfl).symm.trans ht5)
  refine ⟨?_, Tryz.laysM146.s1_3 W hsh, ?_, ?_⟩
  · rw [pow10_dataX] at hd2
    have hcs := Lib.cells_of_tab Tryz.underlying202 Tryz.underlying22 (by kernel_rfl) (by kernel_rfl) hd2
    show W.var? Tryz.prog _ = _
    rw [hv2, ← hcs]
  · obtain ⟨_, u, v, hc, _, _⟩ := iface_of_trod Tryz.underlying84 hd5
    refine ⟨.iface u v, ?_, Or.inr ⟨u, v, rfl⟩⟩
    rw [World.var?_cell hg5 hv5 0, ← Array.getElem?_toList, hc]; rfl
  · obtain ⟨_, u, v, hc, _, _⟩ := iface_of_trod Tryz.underlying84 hd4
    refine ⟨.iface u v, ?_, Or.inr ⟨u, v, rfl⟩⟩
    rw [World.var?_cell hg4 hv4 0, ← Array.getElem?_toList, hc]; rfl
end Go.Proofs.YthmhalcloogniaaGreatDoor
