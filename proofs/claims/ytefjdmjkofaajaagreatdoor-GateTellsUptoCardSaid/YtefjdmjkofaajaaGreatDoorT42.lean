/- Texts of the base. -/

import Derived.Test.YtefjdmjkofaajaaGreatDoorT15
import Derived.Test.YtefjdmjkofaajaaGreatDoorT4
import Derived.Test.YtefjdmjkofaajaaGreatDoorT38
import Derived.Test.YtefjdmjkofaajaaGreatDoorRows
import Derived.Test.YtefjdmjkofaajaaGreatDoorT40
import Derived.Test.YtefjdmjkofaajaaGreatDoorT41
namespace Go.Proofs.YtefjdmjkofaajaaGreatDoor
open Go.RowKit Go.Dm Go.ChangeShapes Go.WideShapes
theorem own : ownKnob Tryz.prog.godebug = none := by kernel_rfl
theorem laidOut : laidOutB Tryz.prog = true := by kernel_rfl
abbrev LAID : List (String × DataW Unit) := [("unicode/utf8.acceptRanges", Rows.laid_unicode_utf8_acceptRanges), ("demesne/word.letters", Rows.laid_demesne_word_letters), ("demesne/word.marks", Rows.laid_demesne_word_marks), ("unicode/utf8.first", Rows.laid_unicode_utf8_first)]
theorem cells_spans {cs : List Value} {l : List Span} (h : ∀ (i : Nat) (x : Span), l[i]? = some x → cs[i * 2]? = some (.int .i32 x.1) ∧ cs[i * 2 + 1]? = some (.int .i32 x.2)) :
  ∀ (j : Nat) (u : Value), (spanCells l)[j]? = some u → cs[j]? = some u := by
 intro j u hj
 have hlen : (spanCells l).length = l.length * 2 := by
  clear h hj
  induction l with
  | nil => rfl
  | cons x l ih => simp [spanCells] at *; omega
 have hjl : j < l.length * 2 := by
  have := (List.getElem?_eq_some_iff.1 hj).1
  omega
 obtain ⟨k, hk⟩ : ∃ k, j = k * 2 ∨ j = k * 2 + 1 := ⟨j / 2, by omega⟩
 have hkl : k < l.length := by omega
 have hx : l[k]? = some (spanAt l k) := by simp [spanAt, hkl]
 have h1 := h k _ hx
 have h2 := spanCells_at l k hkl
 rcases hk with rfl | rfl
 ·rw [h1.1, ← h2.1, hj]
 ·rw [h1.2, ← h2.2, hj]
theorem spans_of_cells {W : World} {g : Nat} {l : List Span} (hm : l.length ≤ maxLen) (h : ∀ (j : Nat) (u : Value), (spanCells l)[j]? = some u → W.cell? ⟨g, j, none⟩ = some u) (hg : g < W.heap.size) :
  Spans W (.slice (some ⟨g, 0, none⟩) l.length l.length) l := by
 have hlen : (spanCells l).length = l.length * 2 := by
  clear h hm
  induction l with
  | nil => rfl
  | cons x l ih => simp [spanCells] at *; omega
 refine ⟨hlen, some ⟨g, 0, none⟩, l.length, rfl, Nat.le_refl _, hm, ?_, Or.inr ⟨g, 0, rfl, hg, ?_⟩⟩
 ·intro h; cases h
 ·intro j u hj
  rw [Nat.zero_add]
  exact h j u hj
theorem pairs_open {H : Type} {enc : TypeId × Value → H} {W : World} {a : Option Addr} {len cap : Nat} {d : DataW H} {ps : List MemPlace}
  (h : DataW.Trod enc Tryz.prog W 0 (fun _ => true) true 31 (.slice a len cap) d ps) :
  ∃ xs : List PairS, Pairs W (.slice a len cap) xs ∧ ((d = .nil ∧ xs = []) ∨ ∃ sp, d = .slice (xs.map pairD) sp) :=
 pairs_of_trod2 Tryz.underlying31 Tryz.underlying126 (by kernel_rfl) rfl rfl (by kernel_rfl) (by kernel_rfl) Tryz.underlying9 Tryz.underlying9 h
theorem terms_open {H : Type} {enc : TypeId × Value → H} {W : World} {a : Option Addr} {len cap : Nat} {d : DataW H} {ps : List MemPlace}
  (h : DataW.Trod enc Tryz.prog W 0 (fun _ => true) true 28 (.slice a len cap) d ps) : ∃ R : List RowS, Terms W (.slice a len cap) R ∧ TermsD R d :=
 terms_of_trod Tryz.underlying28 Tryz.underlying179 (by kernel_rfl) rfl rfl rfl (by kernel_rfl) (by kernel_rfl) (by kernel_rfl) Tryz.underlying9 Tryz.underlying4 Tryz.underlying60 Tryz.underlying9 (by kernel_rfl) h
end Go.Proofs.YtefjdmjkofaajaaGreatDoor
