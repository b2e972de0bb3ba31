/- Texts one behind the other: Chapter 10: the arguments of the great law. -/
import Derived.Test.YtopnllbfhhjobaaGreatDoorT16
import Derived.Test.YtopnllbfhhjobaaGreatDoorT33
import Derived.Test.YtopnllbfhhjobaaGreatDoorBulk
namespace Go.Proofs.YtopnllbfhhjobaaGreatDoor
open Go.RowKit Go.Dm Go.ChangeShapes Go.WideShapes

theorem entMap : (Tryz.prog.fieldsOf 38).toList.map (fun f => (f.type, f.offset)) = [(9, 0), (25, 1), (25, 5)] := by kernel_rfl
theorem entStruct : Tryz.prog.underlying 38 = some (.struct (Tryz.prog.fieldsOf 38)) := by kernel_rfl

theorem bulk_entry {H : Type} {r : EntQ} {d : DataW H} (h : EntD r d) : 2 ≤ Rows.uptoBulk d ∧ r.1.size ≤ Rows.uptoBulk d := by
  obtain ⟨d1, d2, rfl⟩ := h
  have e : r.1.size = r.1.data.toList.length := by rw [Array.length_toList]; rfl
  rw [bulk_agg]
  simp only [Rows.uptoBulkAll, bulk_string]
  omega
theorem bulk_two {H : Type} : ∀ {l : List (DataW H)}, (∀ d ∈ l, 2 ≤ Rows.uptoBulk d) → l.length * 2 ≤ Rows.uptoBulkAll l
  | [], _ => by simp
  | x :: r, h => by
    have h1 := h x (by simp)
    have h2 := bulk_two (l := r) fun d hd => h d (by simp [hd])
    simp only [Rows.uptoBulkAll, List.length_cons]
    omega

/-- A tree among the arguments, where what is read is of a bound bulk. -/
theorem openEntsU {H : Type} {enc : TypeId × Value → H} {W : World} {a : Option Addr} {len cap : Nat} {d : DataW H} {ps : List MemPlace}
    (h : DataW.Trod enc Tryz.prog W 0 (fun _ => true) true 22 (.slice a len cap) d ps) (hb : Rows.uptoBulk d ≤ 1048576) : ∃ R : List EntQ, Tree W (.slice a len cap) R ∧ R.length ≤ 524287 ∧ FitT R := by
  obtain ⟨R, hx, hok, hc⟩ := tree_of_trod Tryz.underlying22 entStruct entMap (by kernel_rfl) (by kernel_rfl) Tryz.underlying9 (by kernel_rfl) Tryz.underlying25 Tryz.underlying23 (by kernel_rfl) h
  refine ⟨R, hx, ?_⟩
  rcases hc with ⟨_, rfl⟩ | ⟨el, sp, rfl, hl, hi⟩
  · exact ⟨by simp, FitT.nil⟩
  · rw [bulk_slice] at hb
    have h2 : ∀ x ∈ el, 2 ≤ Rows.uptoBulk x := fun x hx => by
      obtain ⟨i, hlt, rfl⟩ := List.getElem_of_mem hx
      obtain ⟨e, he, hd⟩ := hi i (by omega)
      rw [List.getElem?_eq_getElem hlt, Option.some.injEq] at he
      rw [he]
      exact (bulk_entry hd).1
    have h3 := bulk_two h2
    refine ⟨by omega, fitT_iff.2 fun r hr => ⟨?_, hok r hr⟩⟩
    obtain ⟨i, hlt, rfl⟩ := List.getElem_of_mem hr
    obtain ⟨e, he, hd⟩ := hi i hlt
    rw [eAt_eq hlt] at hd
    have h4 := (bulk_entry hd).2
    have h5 := bulk_mem (List.mem_of_getElem? he)
    omega

set_option maxRecDepth 100000 in
theorem openVec {H : Type} {enc : TypeId × Value → H} {W : World} {base : Nat} {v : Value} {d : DataW H} {ps : List MemPlace} (hv : Value.okWide Tryz.prog W .any base 25 v)
    (h : DataW.Trod enc Tryz.prog W 0 (fun _ => true) true 25 v d ps) : ∃ a : Vc, OkV a ∧ v = vVal a :=
  open_vec Tryz.underlying25 Tryz.underlying23 (by kernel_rfl) (by kernel_rfl) hv h

end Go.Proofs.YtopnllbfhhjobaaGreatDoor
