/- Texts one behind the other: Chapter 10: the laws' arguments. -/
import Derived.Test.YtopnllbfhhjobaaDoorT27
import Derived.Test.YtopnllbfhhjobaaDoorT29
namespace Go.Proofs.YtopnllbfhhjobaaDoor
open Go.RowKit Go.Dm Go.ChangeShapes Go.WideShapes

theorem chMap : (Tryd.prog.fieldsOf 28).toList.map (fun f => (f.type, f.offset)) = [(5, 0), (5, 1), (5, 2), (5, 3), (5, 4), (4, 5)] := by kernel_rfl
theorem chStruct : Tryd.prog.underlying 28 = some (.struct (Tryd.prog.fieldsOf 28)) := by kernel_rfl

theorem openChs {H : Type} {enc : TypeId × Value → H} {W : World} {a : Option Addr} {len cap : Nat} {d : DataW H} {ps : List MemPlace}
    (h : DataW.Trod enc Tryd.prog W 0 (fun _ => true) true 22 (.slice a len cap) d ps) : ∃ xs : List ChQ, Chs W (.slice a len cap) xs ∧ ∀ c ∈ xs, OkC c := by
  obtain ⟨h2, h3, h4, h5⟩ := ch_fields (P := Tryd.prog) chMap Tryd.underlying5 Tryd.underlying4 (by kernel_rfl) (by kernel_rfl)
  exact chs_of_trod Tryd.underlying22 chStruct (by kernel_rfl) h2 h3 h4 h5 h
set_option maxRecDepth 100000 in
theorem openCh {H : Type} {enc : TypeId × Value → H} {W : World} {base : Nat} {v : Value} {d : DataW H} {ps : List MemPlace} (hv : Value.okWide Tryd.prog W .any base 28 v)
    (h : DataW.Trod enc Tryd.prog W 0 (fun _ => true) true 28 v d ps) : ∃ c : ChQ, OkC c ∧ v = chVal c := by
  obtain ⟨h2, h3, h4, h5⟩ := ch_fields (P := Tryd.prog) chMap Tryd.underlying5 Tryd.underlying4 (by kernel_rfl) (by kernel_rfl)
  exact open_ch chStruct (by kernel_rfl) h2 h3 h4 h5 hv h

end Go.Proofs.YtopnllbfhhjobaaDoor
