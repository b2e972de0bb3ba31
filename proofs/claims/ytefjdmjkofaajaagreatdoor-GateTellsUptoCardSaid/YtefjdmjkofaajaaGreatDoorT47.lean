/- Texts of the base. -/

import Derived.Test.YtefjdmjkofaajaaGreatDoorT39
import Derived.Test.YtefjdmjkofaajaaGreatDoorT46
import Derived.Test.YtefjdmjkofaajaaGreatDoorT44
import Derived.Test.YtefjdmjkofaajaaGreatDoorT36
namespace Go.Proofs.YtefjdmjkofaajaaGreatDoor
open Go.RowKit Go.Dm Go.ChangeShapes Go.WideShapes
theorem opMap : (Tryz.prog.fieldsOf 33).toList.map (fun f => (f.type, f.offset)) = [(3, 0), (25, 1), (25, 2), (9, 3), (27, 4), (30, 8), (31, 17)] := by kernel_rfl
theorem opStruct : Tryz.prog.underlying 33 = some (.struct (Tryz.prog.fieldsOf 33)) := by kernel_rfl
set_option maxRecDepth 100000 in
theorem openOpU {H : Type} {enc : TypeId × Value → H} {W : World} {base : Nat} {x : Value} {D : DataW H} {ps : List MemPlace} (hv : Value.okWide Tryz.prog W .any base 33 x)
  (h : DataW.Trod enc Tryz.prog W 0 (fun _ => true) true 33 x D ps) (hb : Rows.uptoBulk D ≤ 1048576) : ∃ o : OpQ, OpAt W x o ∧ SmallO o := by
 have ce : Tryz.prog.cellsOf 33 = 18 := by kernel_rfl
 obtain ⟨cs, rfl, hsz⟩ := okWide_struct opStruct hv
 rw [ce] at hsz
 obtain ⟨fuel, hf⟩ := h
 match cs, hsz with
 | ⟨[v0, v1, v2, v3, v4, v5, v6, v7, v8, v9, v10, v11, v12, v13, v14, v15, v16, v17]⟩, _ =>
  have hf : DataW.trod enc Tryz.prog W 0 (fun _ => true) true fuel 33 [v0, v1, v2, v3, v4, v5, v6, v7, v8, v9, v10, v11, v12, v13, v14, v15, v16, v17] = some (D, ps) := by simpa [Value.cells] using hf
  obtain ⟨xs, k, _, hxy, _, hxl, hF⟩ := DataW.trod_struct opStruct hf
  have qhmap := opMap
  generalize Tryz.prog.fieldsOf 33 = fs at *
  have qhn : fs.size = 7 := by have := congrArg List.length qhmap; simpa using this
  have qat : ∀ i (f : Field), fs[i]? = some f → [(3, 0), (25, 1), (25, 2), (9, 3), (27, 4), (30, 8), (31, 17)][i]? = some (f.type, f.offset) := fun i f h => by
   rw [← qhmap, List.getElem?_map, Array.getElem?_toList, h]; rfl
  have qex : ∀ i, i < 7 → ∃ f, fs[i]? = some f := fun i hi => ⟨_, Array.getElem?_eq_getElem (by omega)⟩
  obtain ⟨qf0, qh0⟩ := qex 0 (by omega)
  have qt0 := qat 0 qf0 qh0
  obtain ⟨qf1, qh1⟩ := qex 1 (by omega)
  have qt1 := qat 1 qf1 qh1
  obtain ⟨qf2, qh2⟩ := qex 2 (by omega)
  have qt2 := qat 2 qf2 qh2
  obtain ⟨qf3, qh3⟩ := qex 3 (by omega)
  have qt3 := qat 3 qf3 qh3
  obtain ⟨qf4, qh4⟩ := qex 4 (by omega)
  have qt4 := qat 4 qf4 qh4
  obtain ⟨qf5, qh5⟩ := qex 5 (by omega)
  have qt5 := qat 5 qf5 qh5
  obtain ⟨qf6, qh6⟩ := qex 6 (by omega)
  have qt6 := qat 6 qf6 qh6
  simp only [List.getElem?_cons_zero, List.getElem?_cons_succ, Option.some.injEq, Prod.mk.injEq] at qt0 qt1 qt2 qt3 qt4 qt5 qt6
  match xs, hxl.trans qhn with
  | [y0, y1, y2, y3, y4, y5, y6], _ =>
   have qg0 := hF 0 qf0 qh0
   rw [← qt0.1, ← qt0.2, show Tryz.prog.cellsOf 3 = 1 by kernel_rfl] at qg0
   have qg1 := hF 1 qf1 qh1
   rw [← qt1.1, ← qt1.2, show Tryz.prog.cellsOf 25 = 1 by kernel_rfl] at qg1
   have qg2 := hF 2 qf2 qh2
   rw [← qt2.1, ← qt2.2, show Tryz.prog.cellsOf 25 = 1 by kernel_rfl] at qg2
   have qg3 := hF 3 qf3 qh3
   rw [← qt3.1, ← qt3.2, show Tryz.prog.cellsOf 9 = 1 by kernel_rfl] at qg3
   have qg4 := hF 4 qf4 qh4
   rw [← qt4.1, ← qt4.2, show Tryz.prog.cellsOf 27 = 4 by kernel_rfl] at qg4
   have qg5 := hF 5 qf5 qh5
   rw [← qt5.1, ← qt5.2, show Tryz.prog.cellsOf 30 = 9 by kernel_rfl] at qg5
   have qg6 := hF 6 qf6 qh6
   rw [← qt6.1, ← qt6.2, show Tryz.prog.cellsOf 31 = 1 by kernel_rfl] at qg6
   obtain ⟨z0, p0, _, w0⟩ := DataW.trod_int Tryz.underlying3 (by simpa using qg0)
   obtain ⟨z1, p1, _, w1⟩ := DataW.trod_int Tryz.underlying25 (by simpa using qg1)
   obtain ⟨z2, p2, _, w2⟩ := DataW.trod_int Tryz.underlying25 (by simpa using qg2)
   obtain ⟨z3, p3, q3, _⟩ := DataW.trod_string Tryz.underlying9 (by simpa using qg3)
   simp only [List.cons.injEq, and_true] at p0 p1 p2 p3
   simp [Lit.wf, IntKind.min, IntKind.max, IntKind.signed, IntKind.bits] at w0 w1 w2
   obtain ⟨n1, rfl⟩ : ∃ n : Nat, z1 = n := ⟨z1.toNat, by omega⟩
   obtain ⟨n2, rfl⟩ : ∃ n : Nat, z2 = n := ⟨z2.toNat, by omega⟩
   obtain ⟨d, hd, a1, a2, a3, a4⟩ := vec_of_cells Tryz.underlying27 Tryz.underlying25 (by kernel_rfl) (v0 := v4) (v1 := v5) (v2 := v6) (v3 := v7) (by simpa using qg4)
   have hb0 : D = .agg ([y0, y1, y2, y3, y4, y5, y6].map Prod.fst) := (Prod.mk.inj hxy).1
   rw [hb0, bulk_agg] at hb
   simp only [List.map_cons, List.map_nil, Rows.uptoBulkAll] at hb
   have b5 : Rows.uptoBulk y5.1 ≤ 1048576 := by omega
   have b6 : Rows.uptoBulk y6.1 ≤ 1048576 := by omega
   have qg5 : DataW.trod enc Tryz.prog W 0 (fun _ => true) true k 30 [v8, v9, v10, v11, v12, v13, v14, v15, v16] = some (y5.1, y5.2) := by simpa using qg5
   obtain ⟨s, e, m, v, R, hc, hs, he, hR, hfR, hT⟩ := jobCellsU qg5 b5
   simp only [List.cons.injEq, and_true] at hc
   obtain ⟨c0, c1, c2, c3, c4, c5, c6, c7, c8⟩ := hc
   have qg6 : DataW.trod enc Tryz.prog W 0 (fun _ => true) true k 31 [v17] = some (y6.1, y6.2) := by simpa using qg6
   obtain ⟨a, len, cap, rfl⟩ : ∃ a len cap, v17 = .slice a len cap := by
    rcases Deep.open_slice Tryz.underlying31 qg6 with ⟨hcs, _⟩ | ⟨a', len', cap', mm, nn, D', Pl, hcs, _⟩
    ·simp only [List.cons.injEq, and_true] at hcs; exact ⟨_, _, _, hcs⟩
    ·simp only [List.cons.injEq, and_true] at hcs; exact ⟨_, _, _, hcs⟩
   obtain ⟨P, hP⟩ := openPairsU (enc := enc) (W := W) (d := y6.1) (ps := y6.2) ⟨k, by simpa [Value.cells] using qg6⟩ b6
   subst p0 p1 p2 p3 a1 a2 a3 a4 c0 c1 c2 c3 c4 c5 c6 c7 c8
   exact ⟨(z0, (n1, n2), z3, d, (s, e, m, R.map rowT), P), ⟨_, .slice a len cap, R, rfl, hT, hfR, by omega, rfl, hP.1, ⟨by show (_ : Int) ≤ z0 ∧ z0 ≤ _; omega, by show n1 < 18446744073709551616; omega, by show n2 < 18446744073709551616; omega, hd, by show s.size < _; omega, he, by show P.length ≤ _; have := hP.2; omega, by show FitP P; exact hP.2.2⟩⟩, by show (R.map rowT).length ≤ _; rw [List.length_map]; omega, hP.2.1, by show s.size ≤ _; omega⟩
theorem cellsTok : Tryz.prog.cellsOf 24 = 3 := by kernel_rfl
set_option maxRecDepth 100000 in
theorem openTok {H : Type} {enc : TypeId × Value → H} {W : World} {base : Nat} {x : Value} {D : DataW H} {ps : List MemPlace} (hv : Value.okWide Tryz.prog W .any base 24 x)
  (h : DataW.Trod enc Tryz.prog W 0 (fun _ => true) true 24 x D ps) (hb : Rows.uptoBulk D ≤ 1048576) : ∃ t : TokQ, TokIn W x t := by
 obtain ⟨v0, v1, v2, y0, y1, y2, n, rfl, rfl, _, g0, g1, g2⟩ := Joins.open_agg3 Tryz.underlying24 (by kernel_rfl) cellsTok hv h
 rw [bulk_agg] at hb
 simp only [Rows.uptoBulkAll] at hb
 obtain ⟨s0, e0, q0, _⟩ := DataW.trod_string Tryz.underlying9 g0
 obtain ⟨s2, e2, q2, _⟩ := DataW.trod_string Tryz.underlying9 g2
 obtain ⟨a, len, cap, rfl⟩ : ∃ a len cap, v1 = .slice a len cap := by
  rcases Deep.open_slice Tryz.underlying22 g1 with ⟨hcs, _⟩ | ⟨a', len', cap', mm, nn, D', Pl, hcs, _⟩
  ·simp only [List.cons.injEq, and_true] at hcs; exact ⟨_, _, _, hcs⟩
  ·simp only [List.cons.injEq, and_true] at hcs; exact ⟨_, _, _, hcs⟩
 obtain ⟨xs, hx, hm⟩ := openCavs (enc := enc) (W := W) (d := y1.1) (ps := y1.2) ⟨n, by simpa [Value.cells] using g1⟩
 simp only [List.cons.injEq, and_true] at e0 e2
 subst e0 e2
 rw [q0, q2] at hb
 simp only [bulk_string] at hb
 have h0 : s0.size = s0.data.toList.length := by rw [Array.length_toList]; rfl
 have h2 : s2.size = s2.data.toList.length := by rw [Array.length_toList]; rfl
 exact ⟨(s0, xs, s2), _, rfl, hx, by show s0.size ≤ _; omega, by show s2.size ≤ _; omega, hm⟩
end Go.Proofs.YtefjdmjkofaajaaGreatDoor
