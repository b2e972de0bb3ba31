/- Texts one behind the other: Chapter 2: what the rows' lists give the walks; a slice of bytes among the arguments; Chapter 4: labels among the arguments; Chapter 5: selectors, slices of texts among the arguments. -/
import Derived.Test.YthmhalcloogniaaGreatDoorB6
import Derived.Test.YthmhalcloogniaaGreatDoorB5
import Derived.Test.YthmhalcloogniaaGreatDoorB29
import Derived.Test.YthmhalcloogniaaGreatDoorRows
import Derived.Test.YthmhalcloogniaaGreatDoorB31
import Derived.Test.YthmhalcloogniaaGreatDoorB32
namespace Go.Proofs.YthmhalcloogniaaGreatDoor
open Go.RowKit Go.Dm Go.ChangeShapes Go.WideShapes

theorem own : ownKnob Tryz.prog.godebug = none := by kernel_rfl
theorem laidOut : laidOutB Tryz.prog = true := by kernel_rfl

abbrev LAID : List (String × DataW Unit) := [("unicode/utf8.acceptRanges", Rows.laid_unicode_utf8_acceptRanges), ("demesne/word.letters", Rows.laid_demesne_word_letters), ("demesne/word.marks", Rows.laid_demesne_word_marks), ("unicode/utf8.first", Rows.laid_unicode_utf8_first)]

theorem cells_spans {cs : List Value} {l : List Span} (h : ∀ (i : Nat) (x : Span), l[i]? = some x → cs[i * 2]? = some (.int .i32 x.1) ∧ cs[i * 2 + 1]? = some (.int .i32 x.2)) :
    ∀ (j : Nat) (u : Value), (spanCells l)[j]? = some u → cs[j]? = some u := by
  intro j u hj
  have hlen : (spanCells l).length = l.length * 2 := by
    clear h hj
    induction l with
    | nil => rfl
    | cons x l ih => simp [spanCells] at *; omega
  have hjl : j < l.length * 2 := by
    have := (List.getElem?_eq_some_iff.1 hj).1
    omega
  obtain ⟨k, hk⟩ : ∃ k, j = k * 2 ∨ j = k * 2 + 1 := ⟨j / 2, by omega⟩
  have hkl : k < l.length := by omega
  have hx : l[k]? = some (spanAt l k) := by simp [spanAt, hkl]
  have h1 := h k _ hx
  have h2 := spanCells_at l k hkl
  rcases hk with rfl | rfl
  · rw [h1.1, ← h2.1, hj]
  · rw [h1.2, ← h2.2, hj]

theorem spans_of_cells {W : World} {g : Nat} {l : List Span} (hm : l.length ≤ maxLen) (h : ∀ (j : Nat) (u : Value), (spanCells l)[j]? = some u → W.cell? ⟨g, j, none⟩ = some u) (hg : g < W.heap.size) :
    Spans W (.slice (some ⟨g, 0, none⟩) l.length l.length) l := by
  have hlen : (spanCells l).length = l.length * 2 := by
    clear h hm
    induction l with
    | nil => rfl
    | cons x l ih => simp [spanCells] at *; omega
  refine ⟨hlen, some ⟨g, 0, none⟩, l.length, rfl, Nat.le_refl _, hm, ?_, Or.inr ⟨g, 0, rfl, hg, ?_⟩⟩
  · intro h; cases h
  · intro j u hj
    rw [Nat.zero_add]
    exact h j u hj

/-- WHAT THE ROWS' LIST GIVES. -/
theorem vars_of_laid {W : World} (h : laidMetH Tryz.prog LAID W) (hsh : W.ShapedOpen Tryz.prog) : Vars W := by
  rw [MakeChecks.laidMetH_plain _ _ _ (by kernel_rfl)] at h
  obtain ⟨ps, ⟨g0, t0, cs0, f0, p0, q0, hg0, ht0, hv0, hd0, ⟨g1, t1, cs1, f1, p1, q1, hg1, ht1, hv1, hd1, ⟨g2, t2, cs2, f2, p2, q2, hg2, ht2, hv2, hd2, _, _⟩, _⟩, _⟩, _, _⟩ := h
  obtain rfl := Option.some.inj ((show Tryz.prog.globalNamed "demesne/word.letters" = some 0 by kernel_rfl).symm.trans hg1)
  obtain rfl := Option.some.inj ((show Tryz.prog.globalNamed "demesne/word.marks" = some 1 by kernel_rfl).symm.trans hg2)
  obtain rfl := Option.some.inj ((show (Tryz.prog.globals[0]?).map (·.type) = some 178 by kernel_rfl).symm.trans ht1)
  obtain rfl := Option.some.inj ((show (Tryz.prog.globals[1]?).map (·.type) = some 179 by kernel_rfl).symm.trans ht2)
  have L := pairs_of_trod (l := letters) Tryz.underlying178 Tryz.underlying177 (by kernel_rfl) rfl rfl (by kernel_rfl) (by kernel_rfl) Tryz.underlying21 Tryz.underlying21 hd1
  have M := pairs_of_trod (l := marks) Tryz.underlying179 Tryz.underlying177 (by kernel_rfl) rfl rfl (by kernel_rfl) (by kernel_rfl) Tryz.underlying21 Tryz.underlying21 hd2
  have cl : ∀ (j : Nat) (u : Value), (spanCells letters)[j]? = some u → W.cell? ⟨0, j, none⟩ = some u := fun j u hj => by
    rw [World.var?_cell hg1 hv1 j, ← Array.getElem?_toList]
    exact cells_spans L.2 j u hj
  have cm : ∀ (j : Nat) (u : Value), (spanCells marks)[j]? = some u → W.cell? ⟨1, j, none⟩ = some u := fun j u hj => by
    rw [World.var?_cell hg2 hv2 j, ← Array.getElem?_toList]
    exact cells_spans M.2 j u hj
  refine ⟨⟨spans_of_cells (by decide) cl (World.block_lt_of_cell? _ _ (cl 0 _ rfl)), spans_of_cells (by decide) cm (World.block_lt_of_cell? _ _ (cm 0 _ rfl))⟩, ?_⟩
  exact Tryz.laysM146.s1_3 W hsh

/-- A slice of bytes among the arguments. -/
theorem openBytes {H : Type} {enc : TypeId × Value → H} {W : World} {ts : List TypeId} {ds : List (DataW H)} {j : Nat} {a : Option Addr} {len cap : Nat} {d : DataW H} {ps : List MemPlace}
    (hsz : (DataW.weightsEach Tryz.prog ts ds).all (· ≤ reachBytes) = true) (ht : ts[j]? = some 56) (hd : ds[j]? = some d)
    (h : DataW.Trod enc Tryz.prog W 0 (fun _ => true) true 56 (.slice a len cap) d ps) : ∃ zs : List Int, Nums W .u8 (.slice a len cap) zs ∧ zs.length ≤ 140737488355328 ∧ ∀ z ∈ zs, 0 ≤ z ∧ z ≤ 255 := by
  obtain ⟨xs, h1, hr, h2, h3⟩ := nums_of_trod Tryz.underlying56 Tryz.underlying5 (by kernel_rfl) h
  refine ⟨xs, h1, ?_, fun z hz => by have := hr z hz; simp [IntKind.min, IntKind.max, IntKind.signed, IntKind.bits] at this; omega⟩
  rcases h2 with h2 | ⟨el, sp, h2, hl⟩
  · have := h3 h2; omega
  · subst h2
    have := sized_slice hsz ht hd Tryz.underlying56
    rw [show Tryz.prog.bytesOf 5 = 1 by kernel_rfl] at this
    simp only [reachBytes] at this
    omega

end Go.Proofs.YthmhalcloogniaaGreatDoor

namespace Go.Proofs.YthmhalcloogniaaGreatDoor
open Go.RowKit Go.Dm Go.ChangeShapes Go.WideShapes

end Go.Proofs.YthmhalcloogniaaGreatDoor

namespace Go.Proofs.YthmhalcloogniaaGreatDoor
open Go.RowKit Go.Dm Go.ChangeShapes Go.WideShapes

theorem terms_open {H : Type} {enc : TypeId × Value → H} {W : World} {a : Option Addr} {len cap : Nat} {d : DataW H} {ps : List MemPlace}
    (h : DataW.Trod enc Tryz.prog W 0 (fun _ => true) true 25 (.slice a len cap) d ps) : ∃ R : List RowS, Terms W (.slice a len cap) R ∧ TermsD R d :=
  terms_of_trod Tryz.underlying25 Tryz.underlying115 (by kernel_rfl) rfl rfl rfl (by kernel_rfl) (by kernel_rfl) (by kernel_rfl) Tryz.underlying9 Tryz.underlying4 Tryz.underlying28 Tryz.underlying9 (by kernel_rfl) h

/-- A selector among the arguments: its texts are of a size that a run can hold. -/
theorem openTerms {H : Type} {enc : TypeId × Value → H} {W : World} {ts : List TypeId} {ds : List (DataW H)} {j : Nat} {a : Option Addr} {len cap : Nat} {d : DataW H} {ps : List MemPlace}
    (hsz : (DataW.weightsEach Tryz.prog ts ds).all (· ≤ reachBytes) = true) (ht : ts[j]? = some 25) (hd : ds[j]? = some d)
    (h : DataW.Trod enc Tryz.prog W 0 (fun _ => true) true 25 (.slice a len cap) d ps) : ∃ R : List RowS, Terms W (.slice a len cap) R ∧ R.length ≤ 35184372088832 ∧ FitR R := by
  obtain ⟨R, hx, hc⟩ := terms_open h
  have hw : ∀ n ∈ d.weights Tryz.prog 25, n ≤ reachBytes := fun n hn => of_decide_eq_true (List.all_eq_true.1 hsz _ (DataW.weights_mem_each ht hd _ hn))
  have hb : Tryz.prog.bytesOf 115 = 48 := by kernel_rfl
  have hf := terms_fit Tryz.underlying25 Tryz.underlying115 Tryz.underlying28 (by kernel_rfl) hc hw
  rw [hb] at hf
  refine ⟨R, hx, ?_, hf.2⟩
  have := hf.1
  simp only [reachBytes] at this
  omega

/-- Texts among the arguments. -/
theorem openStrings {H : Type} {enc : TypeId × Value → H} {W : World} {ts : List TypeId} {ds : List (DataW H)} {j : Nat} {a : Option Addr} {len cap : Nat} {d : DataW H} {ps : List MemPlace}
    (hsz : (DataW.weightsEach Tryz.prog ts ds).all (· ≤ reachBytes) = true) (ht : ts[j]? = some 28) (hd : ds[j]? = some d)
    (h : DataW.Trod enc Tryz.prog W 0 (fun _ => true) true 28 (.slice a len cap) d ps) : ∃ xs : List ByteArray, Strs W (.slice a len cap) xs ∧ xs.length ≤ 35184372088832 ∧ ∀ x ∈ xs, x.size ≤ 140737488351232 := by
  have hw : ∀ n ∈ d.weights Tryz.prog 28, n ≤ reachBytes := fun n hn => of_decide_eq_true (List.all_eq_true.1 hsz _ (DataW.weights_mem_each ht hd _ hn))
  obtain ⟨fuel, hf⟩ := h
  obtain ⟨xs, hx, hc⟩ := strs_of_cells Tryz.underlying28 Tryz.underlying9 (by kernel_rfl) (by simpa [Value.cells] using hf)
  exact ⟨xs, hx, strs_fit Tryz.underlying28 (by kernel_rfl) hc hw⟩

end Go.Proofs.YthmhalcloogniaaGreatDoor
