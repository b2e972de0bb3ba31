/- Texts of the base. -/

import Derived.Test.YtefjdmjkofaajaaGreatDoorT23
import Derived.Test.YtefjdmjkofaajaaGreatDoorT44
import Derived.Test.YtefjdmjkofaajaaGreatDoorT45
namespace Go.Proofs.YtefjdmjkofaajaaGreatDoor
open Go.RowKit Go.Dm Go.ChangeShapes Go.WideShapes
theorem jobMap : (Tryz.prog.fieldsOf 30).toList.map (fun f => (f.type, f.offset)) = [(9, 0), (27, 1), (3, 5), (3, 6), (3, 7), (28, 8)] := by kernel_rfl
theorem jobStruct : Tryz.prog.underlying 30 = some (.struct (Tryz.prog.fieldsOf 30)) := by kernel_rfl
set_option maxRecDepth 100000 in
theorem jobCellsU {H : Type} {enc : TypeId × Value → H} {W : World} {fuel : Nat} {v0 v1 v2 v3 v4 v5 v6 v7 v8 : Value} {D : DataW H} {ps : List MemPlace}
  (hf : DataW.trod enc Tryz.prog W 0 (fun _ => true) true fuel 30 [v0, v1, v2, v3, v4, v5, v6, v7, v8] = some (D, ps)) (hb : Rows.uptoBulk D ≤ 1048576) :
  ∃ (s : ByteArray) (d : Vc) (n : Nums3) (v : Value) (R : List RowS), [v0, v1, v2, v3, v4, v5, v6, v7, v8] = [.string s, .int .u64 (vG d 0 : Nat), .int .u64 (vG d 1 : Nat), .int .u64 (vG d 2 : Nat), .int .u64 (vG d 3 : Nat), .int .i64 n.1, .int .i64 n.2.1, .int .i64 n.2.2, v] ∧ s.size ≤ 1048576 ∧ OkV d ∧ R.length ≤ 1048576 ∧ FitR R ∧ Terms W v R := by
 obtain ⟨xs, k, _, hxy, _, hxl, hF⟩ := DataW.trod_struct jobStruct hf
 have hmap := jobMap
 generalize Tryz.prog.fieldsOf 30 = fs at *
 have hn : fs.size = 6 := by have := congrArg List.length hmap; simpa using this
 have at' : ∀ i (f : Field), fs[i]? = some f → [(9, 0), (27, 1), (3, 5), (3, 6), (3, 7), (28, 8)][i]? = some (f.type, f.offset) := fun i f h => by
  rw [← hmap, List.getElem?_map, Array.getElem?_toList, h]; rfl
 have hex : ∀ i, i < 6 → ∃ f, fs[i]? = some f := fun i hi => ⟨_, Array.getElem?_eq_getElem (by omega)⟩
 obtain ⟨f0, h0⟩ := hex 0 (by omega)
 obtain ⟨f1, h1⟩ := hex 1 (by omega)
 obtain ⟨f2, h2⟩ := hex 2 (by omega)
 obtain ⟨f3, h3⟩ := hex 3 (by omega)
 obtain ⟨f4, h4⟩ := hex 4 (by omega)
 obtain ⟨f5, h5⟩ := hex 5 (by omega)
 have t0 := at' 0 f0 h0
 have t1 := at' 1 f1 h1
 have t2 := at' 2 f2 h2
 have t3 := at' 3 f3 h3
 have t4 := at' 4 f4 h4
 have t5 := at' 5 f5 h5
 simp only [List.getElem?_cons_zero, List.getElem?_cons_succ, Option.some.injEq, Prod.mk.injEq] at t0 t1 t2 t3 t4 t5
 have c1 : Tryz.prog.cellsOf 9 = 1 := by kernel_rfl
 have c4 : Tryz.prog.cellsOf 27 = 4 := by kernel_rfl
 have ci : Tryz.prog.cellsOf 3 = 1 := by kernel_rfl
 have ct : Tryz.prog.cellsOf 28 = 1 := by kernel_rfl
 match xs, hxl.trans hn with
 | [y0, y1, y2, y3, y4, y5], _ =>
  have g0 := hF 0 f0 h0
  have g1 := hF 1 f1 h1
  have g2 := hF 2 f2 h2
  have g3 := hF 3 f3 h3
  have g4 := hF 4 f4 h4
  have g5 := hF 5 f5 h5
  rw [← t0.1, ← t0.2, c1] at g0
  rw [← t1.1, ← t1.2, c4] at g1
  rw [← t2.1, ← t2.2, ci] at g2
  rw [← t3.1, ← t3.2, ci] at g3
  rw [← t4.1, ← t4.2, ci] at g4
  rw [← t5.1, ← t5.2, ct] at g5
  obtain ⟨z0, p0, q0, _⟩ := DataW.trod_string Tryz.underlying9 (by simpa using g0)
  obtain ⟨z2, p2, _, _⟩ := DataW.trod_int Tryz.underlying3 (by simpa using g2)
  obtain ⟨z3, p3, _, _⟩ := DataW.trod_int Tryz.underlying3 (by simpa using g3)
  obtain ⟨z4, p4, _, _⟩ := DataW.trod_int Tryz.underlying3 (by simpa using g4)
  simp only [List.cons.injEq, and_true] at p0 p2 p3 p4
  obtain ⟨l, hl, a1, a2, a3, a4⟩ := vec_of_cells Tryz.underlying27 Tryz.underlying25 (by kernel_rfl) (v0 := v1) (v1 := v2) (v2 := v3) (v3 := v4) (by simpa using g1)
  have g5 : DataW.trod enc Tryz.prog W 0 (fun _ => true) true k 28 [v8] = some y5 := by simpa using g5
  have hb0 : D = .agg ([y0, y1, y2, y3, y4, y5].map Prod.fst) := (Prod.mk.inj hxy).1
  rw [hb0, bulk_agg] at hb
  simp only [List.map_cons, List.map_nil, Rows.uptoBulkAll, q0, bulk_string] at hb
  have hs : z0.size = z0.data.toList.length := by rw [Array.length_toList]; rfl
  obtain ⟨a, len, cap, rfl⟩ : ∃ a len cap, v8 = .slice a len cap := by
   rcases Deep.open_slice Tryz.underlying28 g5 with ⟨hcs, _⟩ | ⟨a', len', cap', m, n, D', Pl, hcs, _⟩
   ·simp only [List.cons.injEq, and_true] at hcs; exact ⟨_, _, _, hcs⟩
   ·simp only [List.cons.injEq, and_true] at hcs; exact ⟨_, _, _, hcs⟩
  obtain ⟨R, hx, hm, hf5⟩ := openTermsU (enc := enc) (W := W) (d := y5.1) (ps := y5.2) ⟨k, by simpa [Value.cells] using g5⟩ (by omega)
  exact ⟨z0, l, (z2, z3, z4), .slice a len cap, R, by rw [p0, a1, a2, a3, a4, p2, p3, p4], by omega, hl, hm, hf5, hx⟩
end Go.Proofs.YtefjdmjkofaajaaGreatDoor
