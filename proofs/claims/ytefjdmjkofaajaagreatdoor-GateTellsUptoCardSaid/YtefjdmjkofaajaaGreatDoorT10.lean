/- Texts of the base. -/

import Derived.Test.YtefjdmjkofaajaaGreatDoorT11
import Derived.Test.YtefjdmjkofaajaaGreatDoorT13
import Derived.Lib.BufferWrite
namespace Go.Dm
open Go Go.RowKit
theorem run_copy_prefix {P : Program} (w : World) (dT sT ty elem : TypeId) (g o dLen dCap : Nat) (s : ByteArray) (cur : Array Value) (t : TypeId) (m : Nat)
  (hu : P.underlying dT = some (.slice elem)) (hs : (P.info? elem).map (·.size) = some 1) (hg : w.heap[g]? = some (.cells cur t (0, 0))) (hm : Nat.min s.size dLen = m) (hfit : o + m ≤ cur.size) :
  (Builtin.copy_ #[dT, sT] ty #[.slice (some ⟨g, o, none⟩) dLen dCap, .string s]).run P w =
   .ok (goInt m) (w.setRow g (cur.toList.take o ++ Lib.byteCells (s.data.toList.take m) ++ cur.toList.drop (o + m)).toArray) := by
 have hms : m ≤ s.data.toList.length := by rw [← hm]; exact Nat.min_le_left _ _
 have hlen : (Lib.byteCells (s.data.toList.take m)).length = m := by rw [Lib.byteCells_length, List.length_take]; omega
 have hst := run_storeCells_at P g o t (Lib.byteCells (s.data.toList.take m)) 0 cur w hg (by rw [hlen]; simpa using hfit) (Lib.byteCells_one _)
 have htk : List.take m (List.map (fun b : UInt8 => Value.int IntKind.u8 (b.toNat : Int)) s.data.toList) = Lib.byteCells (s.data.toList.take m) := by
  rw [← List.map_take]
  rfl
 rw [hlen] at hst
 simp only [Nat.add_zero] at hst
 cases hq : P.info? elem with
 | none => simp [hq] at hs
 | some i =>
  simp [Builtin.copy_, run_underlying hu, Builtin.lenOf, Builtin.firstCells, sizeOf, typeInfo, hq, hm]
  rw [htk, hst]
  simp [Result.andThen]
def ofB (l : Bs) : List Int := l.map fun b => (b.toNat : Int)
theorem cells_ofB (l : Bs) : (cellsI .u8 (ofB l)).toList = bCells l := by simp [cellsI, ofB, bCells]
def blk (l : Bs) : Bs := l.take 64 ++ List.replicate (64 - l.length) 0
theorem blk_len (l : Bs) : (blk l).length = 64 := by simp [blk]; omega
theorem ofB_range (l : Bs) (i : Nat) : 0 ≤ (ofB l).getD i 0 ∧ (ofB l).getD i 0 ≤ 255 := by
 unfold ofB
 rw [List.getD_eq_getElem?_getD, List.getElem?_map]
 cases l[i]? with
 | none => simp
 | some b =>
  have := b.toNat_lt
  simp
  omega
section
variable {P : Program} {w : World} {ops : Array Oper} {rest : List Oper} {o : Oper} {a : Act} {Q : Exit → Act → World → Prop}
theorem wpList_copy_blk (hgd : o.guard = none) (d x : Operand) {dT sT e : TypeId} (hu : P.underlying dT = some (.slice e)) (hs : (P.info? e).map (·.size) = some 1)
  (ho : o.op = .call { callee := .builtin .copy, args := #[d, x], argTypes := #[dT, sT] })
  {b : Nat} {t : TypeId} (hd : a.eval d = .slice (some ⟨b, 0, none⟩) 64 64) {s : ByteArray} (hx : a.eval x = .string s) (hB : AB b t .u8 (List.replicate 64 0) w)
  (h : wpList P ops Q rest (a.put o.dst (goInt (Nat.min s.size 64))) (w.setRow b (cellsI .u8 (ofB (blk s.data.toList))))) : wpList P ops Q (o :: rest) a w := by
 refine wpList_plain hgd fun K hK => ?_
 have hrun := run_copy_prefix (P := P) w dT sT o.type e b 0 64 64 s _ t (Nat.min s.size 64) hu hs hB rfl (by rw [size_cellsI]; simp; exact Nat.min_le_right _ _)
 have hc : ((cellsI .u8 (List.replicate 64 0)).toList.take 0 ++ Lib.byteCells (s.data.toList.take (Nat.min s.size 64)) ++ (cellsI .u8 (List.replicate 64 0)).toList.drop (0 + Nat.min s.size 64)).toArray = cellsI .u8 (ofB (blk s.data.toList)) := by
  have hl : s.data.toList.length = s.size := rfl
  have e1 : s.data.toList.take (Nat.min s.size 64) = s.data.toList.take 64 := by
   by_cases h : s.size ≤ 64
   ·rw [show Nat.min s.size 64 = s.size from Nat.min_eq_left h, List.take_of_length_le (by omega), List.take_of_length_le (by omega)]
   ·rw [show Nat.min s.size 64 = 64 from Nat.min_eq_right (by omega)]
  have e2 : 64 - Nat.min s.size 64 = 64 - s.size := by
   by_cases h : s.size ≤ 64
   ·rw [show Nat.min s.size 64 = s.size from Nat.min_eq_left h]
   ·rw [show Nat.min s.size 64 = 64 from Nat.min_eq_right (by omega)]; omega
  rw [e1]
  simp only [cellsI, List.toList_toArray, List.map_replicate, List.drop_replicate, Nat.zero_add, List.take_zero, List.nil_append, e2, ofB, blk, Lib.byteCells, List.map_append, List.map_map, hl]
  rfl
 rw [hc] at hrun
 unfold Oper.wp
 simp [execOp, ho, resolve, invoke, builtin, hd, hx, hrun, Result.andThen]
 exact hK _ _ h
end
end Go.Dm
