/- Texts one behind the other: Two amounts are compared. No program in sight. -/
import Derived.Test.YtopnllbfhhjobaaGreatDoorT5
import Derived.ChangeKeysEq
namespace Go.Dm
open Go Go.RowKit
theorem run_part_one {P : Program} {q : TypeId} {k : IntKind} (hq : P.underlying q = some (.int k)) (xs : Array Value) (j : Nat) (v : Value) (h : xs[j]? = some v) (w : World) : (part q xs j).run P w = .ok v w := by
  simp [part, isAgg, run_underlying hq, h]
theorem run_eql_vec {P : Program} {t q : TypeId} (ht : P.underlying t = some (.array 4 q)) (hq : P.underlying q = some (.int .u64)) (cq : P.cellsOf q = 1) (a0 a1 a2 a3 b0 b1 b2 b3 : Int) (w : World) :
    (binOp .eql t (.agg #[.int .u64 a0, .int .u64 a1, .int .u64 a2, .int .u64 a3]) (.agg #[.int .u64 b0, .int .u64 b1, .int .u64 b2, .int .u64 b3])).run P w = .ok (.bool (a0 == b0 && (a1 == b1 && (a2 == b2 && a3 == b3)))) w := by
  obtain ⟨i, hi⟩ := info_of_underlying hq
  have he : ∀ (a b : Int), (Op.equalIn 9999 q (.int .u64 a) (.int .u64 b)).run P w = .ok (a == b) w := fun a b => run_equalIn_int w 9998 q .u64 .u64 a b hq
  rw [run_eql_struct, run_equalIn_array w 9999 _ _ ht hi, cq, show List.range 4 = [0, 1, 2, 3] from rfl]
  simp only [Op.eqItems, Sem.run_bind, Nat.mul_one, run_part_one hq #[.int .u64 a0, .int .u64 a1, .int .u64 a2, .int .u64 a3] 0 _ rfl, run_part_one hq #[.int .u64 a0, .int .u64 a1, .int .u64 a2, .int .u64 a3] 1 _ rfl, run_part_one hq #[.int .u64 a0, .int .u64 a1, .int .u64 a2, .int .u64 a3] 2 _ rfl, run_part_one hq #[.int .u64 a0, .int .u64 a1, .int .u64 a2, .int .u64 a3] 3 _ rfl,
    run_part_one hq #[.int .u64 b0, .int .u64 b1, .int .u64 b2, .int .u64 b3] 0 _ rfl, run_part_one hq #[.int .u64 b0, .int .u64 b1, .int .u64 b2, .int .u64 b3] 1 _ rfl, run_part_one hq #[.int .u64 b0, .int .u64 b1, .int .u64 b2, .int .u64 b3] 2 _ rfl, run_part_one hq #[.int .u64 b0, .int .u64 b1, .int .u64 b2, .int .u64 b3] 3 _ rfl, Result.andThen_ok, Sem.run_ite]
  cases h0 : a0 == b0 <;> cases h1 : a1 == b1 <;> cases h2 : a2 == b2 <;> cases h3 : a3 == b3 <;> simp [he, h0, h1, h2, h3]
theorem vG_no {d : Vc} (hd : OkV d) (h0 : vG d 0 = 0) (h1 : vG d 1 = 0) (h2 : vG d 2 = 0) (h3 : vG d 3 = 0) : d = noV := by
  obtain ⟨x, y, z, u, rfl, _⟩ := hd.ex
  simp [vG] at h0 h1 h2 h3
  subst h0 h1 h2 h3
  rfl
theorem vc_eq {a b : Vc} (ha : OkV a) (hb : OkV b) : a = b ↔ vG a 0 = vG b 0 ∧ vG a 1 = vG b 1 ∧ vG a 2 = vG b 2 ∧ vG a 3 = vG b 3 := by
  obtain ⟨x, y, z, u, rfl, _⟩ := ha.ex
  obtain ⟨x', y', z', u', rfl, _⟩ := hb.ex
  simp [vG]
/-- `==` of two amounts. -/
theorem run_eql_vals {P : Program} {t q : TypeId} (ht : P.underlying t = some (.array 4 q)) (hq : P.underlying q = some (.int .u64)) (cq : P.cellsOf q = 1) {a b : Vc} (ha : OkV a) (hb : OkV b) (w : World) :
    (binOp .eql t (vVal a) (vVal b)).run P w = .ok (.bool (decide (a = b))) w := by
  unfold vVal vF
  rw [run_eql_vec ht hq cq]
  congr 2
  rw [Bool.eq_iff_iff]
  simp only [Bool.and_eq_true, beq_iff_eq, decide_eq_true_eq]
  rw [vc_eq ha hb]
  omega
theorem run_neq_vals {P : Program} {t q : TypeId} (ht : P.underlying t = some (.array 4 q)) (hq : P.underlying q = some (.int .u64)) (cq : P.cellsOf q = 1) {a b : Vc} (ha : OkV a) (hb : OkV b) (w : World) :
    (binOp .neq t (vVal a) (vVal b)).run P w = .ok (.bool (!decide (a = b))) w := by
  have h := run_eql_vals (P := P) ht hq cq ha hb w
  unfold vVal vF at h ⊢
  rw [run_eql_struct] at h
  rw [run_neq_struct]
  cases e : (Op.equalIn 10000 t (.agg #[.int .u64 (vG a 0 : Nat), .int .u64 (vG a 1 : Nat), .int .u64 (vG a 2 : Nat), .int .u64 (vG a 3 : Nat)]) (.agg #[.int .u64 (vG b 0 : Nat), .int .u64 (vG b 1 : Nat), .int .u64 (vG b 2 : Nat), .int .u64 (vG b 3 : Nat)])).run P w with
  | ok r w' =>
    rw [e] at h
    simp only [Result.andThen_ok] at h ⊢
    injection h with h1 h2
    injection h1 with h1
    rw [h1, h2]
  | halt x w' => rw [e] at h; simp [Result.andThen] at h
end Go.Dm
