/- Chapter 3: what the rows' lists give the walks; the laws' arguments. -/
import Derived.Test.YtibimbcjnjefdaaDoorVcParse
import Derived.Test.YtibimbcjnjefdaaDoorVcArgs
import Derived.Test.YtibimbcjnjefdaaDoorHanded
import Derived.Test.YtibimbcjnjefdaaDoorRows
import Derived.LaidLaws
import Derived.Lib.LaidTab
import Derived.MakeChecks
namespace Go.Proofs.YtibimbcjnjefdaaDoor
open Go.RowKit Go.Dm Go.ChangeShapes Go.WideShapes

theorem own : ownKnob Tryd.prog.godebug = none := by kernel_rfl
theorem laidOut : laidOutB Tryd.prog = true := by kernel_rfl

abbrev LAID : List (String × DataW Unit) := [("math/bits.deBruijn32tab", Rows.laid_math_bits_deBruijn32tab), ("math/bits.deBruijn64tab", Rows.laid_math_bits_deBruijn64tab), ("internal/strconv.uint64pow10", Rows.laid_internal_strconv_uint64pow10), ("unicode/utf8.acceptRanges", Rows.laid_unicode_utf8_acceptRanges), ("strconv.ErrRange", Rows.laid_strconv_ErrRange), ("strconv.ErrSyntax", Rows.laid_strconv_ErrSyntax), ("unicode/utf8.first", Rows.laid_unicode_utf8_first)]

theorem pow10_data : (Rows.laid_internal_strconv_uint64pow10 : DataW Unit) = Lib.tabData .u64 Lib.pow10Tab := by
  simp [Lib.tabData, Lib.pow10Tab, List.range, List.range.loop, Rows.laid_internal_strconv_uint64pow10]

/-- WHAT THE ROWS' LIST GIVES. -/
theorem vars_of_laid {W : World} (h : laidMetH Tryd.prog LAID W) (hsh : W.ShapedOpen Tryd.prog) : VarsV W := by
  rw [MakeChecks.laidMetH_plain _ _ _ (by kernel_rfl)] at h
  obtain ⟨ps, ⟨g0, t0, cs0, f0, p0, q0, hg0, ht0, hv0, hd0, ⟨g1, t1, cs1, f1, p1, q1, hg1, ht1, hv1, hd1, ⟨g2, t2, cs2, f2, p2, q2, hg2, ht2, hv2, hd2, ⟨g3, t3, cs3, f3, p3, q3, hg3, ht3, hv3, hd3, ⟨g4, t4, cs4, f4, p4, q4, hg4, ht4, hv4, hd4, ⟨g5, t5, cs5, f5, p5, q5, hg5, ht5, hv5, hd5, _, _⟩, _⟩, _⟩, _⟩, _⟩, _⟩, _, _⟩ := h
  obtain rfl := Option.some.inj ((show Tryd.prog.globalNamed "internal/strconv.uint64pow10" = some 2 by kernel_rfl).symm.trans hg2)
  obtain rfl := Option.some.inj ((show Tryd.prog.globalNamed "strconv.ErrRange" = some 1 by kernel_rfl).symm.trans hg4)
  obtain rfl := Option.some.inj ((show Tryd.prog.globalNamed "strconv.ErrSyntax" = some 0 by kernel_rfl).symm.trans hg5)
  obtain rfl := Option.some.inj ((show (Tryd.prog.globals[2]?).map (·.type) = some 111 by kernel_rfl).symm.trans ht2)
  obtain rfl := Option.some.inj ((show (Tryd.prog.globals[1]?).map (·.type) = some 61 by kernel_rfl).symm.trans ht4)
  obtain rfl := Option.some.inj ((show (Tryd.prog.globals[0]?).map (·.type) = some 61 by kernel_rfl).symm.trans ht5)
  refine ⟨?_, Tryd.laysM146.s1_3 W hsh, ?_, ?_⟩
  · rw [pow10_data] at hd2
    have hcs := Lib.cells_of_tab Tryd.underlying111 Tryd.underlying22 (by kernel_rfl) (by kernel_rfl) hd2
    show W.var? Tryd.prog _ = _
    rw [hv2, ← hcs]
  · obtain ⟨_, u, v, hc, _, _⟩ := iface_of_trod Tryd.underlying61 hd5
    refine ⟨.iface u v, ?_, Or.inr ⟨u, v, rfl⟩⟩
    rw [World.var?_cell hg5 hv5 0, ← Array.getElem?_toList, hc]; rfl
  · obtain ⟨_, u, v, hc, _, _⟩ := iface_of_trod Tryd.underlying61 hd4
    refine ⟨.iface u v, ?_, Or.inr ⟨u, v, rfl⟩⟩
    rw [World.var?_cell hg4 hv4 0, ← Array.getElem?_toList, hc]; rfl

set_option maxRecDepth 100000 in
theorem openVec {H : Type} {enc : TypeId × Value → H} {W : World} {base : Nat} {v : Value} {d : DataW H} {ps : List MemPlace} (hv : Value.okWide Tryd.prog W .any base 24 v)
    (h : DataW.Trod enc Tryd.prog W 0 (fun _ => true) true 24 v d ps) : ∃ a : Vc, OkV a ∧ v = vVal a :=
  open_vec Tryd.underlying24 Tryd.underlying22 (by kernel_rfl) (by kernel_rfl) hv h

end Go.Proofs.YtibimbcjnjefdaaDoor
