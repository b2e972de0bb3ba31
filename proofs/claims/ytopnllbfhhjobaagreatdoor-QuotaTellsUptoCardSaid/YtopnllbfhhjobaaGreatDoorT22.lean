/- Texts one behind the other: Two entries are compared. No program in sight; Chapter 10: the walks of Put, entry; Chapter 10: the walk of Get; Chapter 10: what Set, Charge, Refund answer is of a size that a run can hold. No program in sight; Chapter 10, the document's: the walks of find, above, named, parent, Find, New. -/
import Derived.Test.YtopnllbfhhjobaaGreatDoorT8
import Derived.Test.YtopnllbfhhjobaaGreatDoorT13
import Derived.DeepKeys
import Derived.Test.YtopnllbfhhjobaaGreatDoorT12
import Derived.Test.YtopnllbfhhjobaaGreatDoorT18
import Derived.Test.YtopnllbfhhjobaaGreatDoorT21
import Derived.Test.YtopnllbfhhjobaaGreatDoorT5
namespace Go.Dm
open Go Go.RowKit
theorem u64_wf {n : Nat} (h : U64 n) : (Lit.int .u64 (n : Nat)).wf = true := by
  unfold U64 at h
  simp [Lit.wf, IntKind.min, IntKind.max, IntKind.signed, IntKind.bits]
  omega
def vLits (A : Nat → Nat) : List Lit := [.int .u64 (A 0 : Nat), .int .u64 (A 1 : Nat), .int .u64 (A 2 : Nat), .int .u64 (A 3 : Nat)]
theorem keyLits_vec {P : Program} {t q : TypeId} (ht : P.underlying t = some (.array 4 q)) (hq : P.underlying q = some (.int .u64)) (ct : P.cellsOf t = 4) (cq : P.cellsOf q = 1) {A : Nat → Nat} (hA : ∀ k, U64 (A k)) (D : Nat) :
    P.keyLits (D + 2) t [.int .u64 (A 0 : Nat), .int .u64 (A 1 : Nat), .int .u64 (A 2 : Nat), .int .u64 (A 3 : Nat)] = some (vLits A) := by
  have h1 : ∀ k, P.keyLits (D + 1) q [.int .u64 (A k : Nat)] = some [.int .u64 (A k : Nat)] := fun k => by
    unfold Program.keyLits
    rw [hq]
    simp only [u64_wf (hA k), and_self, if_true]
  unfold Program.keyLits
  rw [ht]
  simp only [ct, cq, List.length_cons, List.length_nil, if_true, show List.range 4 = [0, 1, 2, 3] from rfl]
  simp [h1, vLits]
def entLits (r : EntQ) : List Lit := .string r.1.data.toList :: (vLits (vG r.2.1) ++ vLits (vG r.2.2))
theorem keyLits_ent {P : Program} {t s v q : TypeId} {fs : Array Field} (ht : P.underlying t = some (.struct fs)) (hfs : fs.toList.map (fun f => (f.type, f.offset)) = [(s, 0), (v, 1), (v, 5)]) (hbl : fs.all (·.name != "_") = true)
    (ct : P.cellsOf t = 9) (cs : P.cellsOf s = 1) (hs : P.underlying s = some .string)
    (hv : P.underlying v = some (.array 4 q)) (hq : P.underlying q = some (.int .u64)) (cv : P.cellsOf v = 4) (cq : P.cellsOf q = 1) {r : EntQ} (hr : r.1.size ≤ maxLen ∧ OkV r.2.1 ∧ OkV r.2.2) (D : Nat) :
    P.keyLits (D + 3) t (entOne r) = some (entLits r) := by
  have h1 : P.keyLits (D + 2) s [.string r.1] = some [.string r.1.data.toList] := by
    unfold Program.keyLits
    rw [hs]
    simp only [hr.1, if_true]
  have h2 := keyLits_vec hv hq cv cq (A := vG r.2.1) (fun k => hr.2.1.u64 k) D
  have h3 := keyLits_vec hv hq cv cq (A := vG r.2.2) (fun k => hr.2.2.u64 k) D
  have hm : ∀ (l : List Field) (g : TypeId × Nat → Option (List Lit)), l.mapM (fun f => g (f.type, f.offset)) = (l.map fun f => (f.type, f.offset)).mapM g := fun l g => by rw [List.mapM_map]; rfl
  unfold Program.keyLits
  rw [ht]
  simp only [ct, hbl, show (entOne r).length = 9 from rfl, and_self, if_true]
  rw [hm fs.toList (fun x => P.keyLits (D + 2) x.1 (((entOne r).drop x.2).take (P.cellsOf x.1))), hfs]
  simp only [List.mapM_cons, List.mapM_nil, cs, cv]
  rw [show ((entOne r).drop 0).take 1 = [.string r.1] from rfl, h1]
  rw [show ((entOne r).drop 1).take 4 = [.int .u64 (vG r.2.1 0 : Nat), .int .u64 (vG r.2.1 1 : Nat), .int .u64 (vG r.2.1 2 : Nat), .int .u64 (vG r.2.1 3 : Nat)] from rfl, h2]
  rw [show ((entOne r).drop 5).take 4 = [.int .u64 (vG r.2.2 0 : Nat), .int .u64 (vG r.2.2 1 : Nat), .int .u64 (vG r.2.2 2 : Nat), .int .u64 (vG r.2.2 3 : Nat)] from rfl, h3]
  rfl
theorem vLits_inj {A B : Nat → Nat} : vLits A = vLits B ↔ A 0 = B 0 ∧ A 1 = B 1 ∧ A 2 = B 2 ∧ A 3 = B 3 := by
  simp only [vLits, List.cons.injEq, Lit.int.injEq, and_true, true_and]; omega
theorem entLits_inj {a b : EntQ} (ha : OkV a.2.1 ∧ OkV a.2.2) (hb : OkV b.2.1 ∧ OkV b.2.2) : entLits a = entLits b ↔ a = b := by
  obtain ⟨s, l, u⟩ := a
  obtain ⟨s', l', u'⟩ := b
  constructor
  · intro h
    unfold entLits at h
    injection h with h1 h2
    injection h1 with h1
    obtain ⟨h2, h3⟩ := List.append_inj h2 rfl
    have e1 := (vc_eq ha.1 hb.1).2 (vLits_inj.1 h2)
    have e2 := (vc_eq ha.2 hb.2).2 (vLits_inj.1 h3)
    have e0 : s = s' := mk_bytes h1
    simp only at e1 e2
    rw [e0, e1, e2]
  · intro h; rw [h]
/-- `==`, `!=` of two entries. -/
theorem run_eql_ents {P : Program} {t s v q : TypeId} {fs : Array Field} (ht : P.underlying t = some (.struct fs)) (hfs : fs.toList.map (fun f => (f.type, f.offset)) = [(s, 0), (v, 1), (v, 5)]) (hbl : fs.all (·.name != "_") = true)
    (ct : P.cellsOf t = 9) (cs : P.cellsOf s = 1) (hs : P.underlying s = some .string)
    (hv : P.underlying v = some (.array 4 q)) (hq : P.underlying q = some (.int .u64)) (cv : P.cellsOf v = 4) (cq : P.cellsOf q = 1) (hk : P.keyTypeAt 9 t = true) {a b : EntQ} (ha : a.1.size ≤ maxLen ∧ OkV a.2.1 ∧ OkV a.2.2) (hb : b.1.size ≤ maxLen ∧ OkV b.2.1 ∧ OkV b.2.2) (w : World) :
    (Op.equalIn 10000 t (entVal a) (entVal b)).run P w = .ok (decide (a = b)) w := by
  have k1 := keyLits_ent ht hfs hbl ct cs hs hv hq cv cq ha 0
  have k2 := keyLits_ent ht hfs hbl ct cs hs hv hq cv cq hb 0
  have hfo : ∀ r : EntQ, (entVal r).formed P t = true := fun r => by
    unfold entVal Value.formed
    rw [ht, ct]; rfl
  obtain ⟨r, h1, h2⟩ := run_equalIn_deep (P := P) 9991 9 t hk w 3 3 (entVal a) (entVal b) _ _ (hfo a) (hfo b) k1 k2
  rw [entLits_inj ha.2 hb.2] at h2
  rw [h1]
  congr 1
  rw [Bool.eq_iff_iff, h2, decide_eq_true_eq]
theorem run_eql_entQ {P : Program} {t : TypeId} {a b : EntQ} {d : Bool} {w : World} (h : (Op.equalIn 10000 t (entVal a) (entVal b)).run P w = .ok d w) : (binOp .eql t (entVal a) (entVal b)).run P w = .ok (.bool d) w := by
  unfold entVal at h ⊢
  rw [run_eql_struct, h]; rfl
theorem run_neq_entQ {P : Program} {t : TypeId} {a b : EntQ} {d : Bool} {w : World} (h : (Op.equalIn 10000 t (entVal a) (entVal b)).run P w = .ok d w) : (binOp .neq t (entVal a) (entVal b)).run P w = .ok (.bool (!d)) w := by
  unfold entVal at h ⊢
  rw [run_neq_struct, h]; rfl
end Go.Dm
namespace Go.Proofs.YtopnllbfhhjobaaGreatDoor
open Go.RowKit Go.Dm
theorem eqEnt {a b : EntQ} (ha : a.1.size ≤ maxLen ∧ OkV a.2.1 ∧ OkV a.2.2) (hb : b.1.size ≤ maxLen ∧ OkV b.2.1 ∧ OkV b.2.2) (w : World) : (Op.equalIn 10000 38 (entVal a) (entVal b)).run Tryz.prog w = .ok (decide (a = b)) w :=
  run_eql_ents Tryz.underlying38 (by kernel_rfl) (by kernel_rfl) (by kernel_rfl) (by kernel_rfl) Tryz.underlying9 Tryz.underlying25 Tryz.underlying23 (by kernel_rfl) (by kernel_rfl) (by kernel_rfl) ha hb w
end Go.Proofs.YtopnllbfhhjobaaGreatDoor

namespace Go.Dm
open Go Go.RowKit
/-- What is put of the first k. -/
def putN (R : List EntQ) (k : Nat) : Bs := putL R.length ++ (R.take k).flatMap putE
theorem putN_step {R : List EntQ} {k : Nat} (hk : k < R.length) : putN R (k + 1) = putN R k ++ putE (eAt R k) := by
  unfold putN
  rw [List.take_add_one, List.getElem?_eq_getElem hk, ← eAt_eq hk]
  simp [List.append_assoc]
theorem putN_len (R : List EntQ) (k : Nat) : (putN R k).length ≤ (putQ R).length := by
  unfold putN putQ
  conv => rhs; rw [← List.take_append_drop k R, List.flatMap_append]
  simp only [List.length_append, List.length_take, List.length_drop]
  have : min k R.length + (R.length - k) = R.length := by omega
  rw [this]
  omega
/-- The entry that stands at a place. -/
def entJ (l : Bs) (t : Bs × Int × Bool) : EntQ × Int × Bool :=
  if t.2.2 = false then (noEnt, 0, false)
  else if (getV l t.2.1).2.2 = false then (noEnt, 0, false)
  else ((⟨t.1.toArray⟩, (getV l t.2.1).1, (getV l (getV l t.2.1).2.1).1), (getV l (getV l t.2.1).2.1).2.1, (getV l (getV l t.2.1).2.1).2.2)
def entI (l : Bs) (p : Int) : EntQ × Int × Bool := entJ l (atI (getTextL 98) [] l p)
theorem EBox.far0 {b : Nat} {s : ByteArray} {L U : Nat → Nat} {w : World} (h : EBox b s L U w) (s2 : ByteArray) : EBox b s2 L U (w.setCell ⟨b, 0, none⟩ (.string s2)) := by
  refine ⟨by rw [World.size_setCell]; exact h.lt, cell_same h.c0, ?_, ?_, ?_, ?_, ?_, ?_, ?_, ?_, ?_, ?_, ?_, ?_, ?_, ?_, ?_, ?_, ?_⟩
  · rw [cell_other (by omega)]; exact h.c1
  · rw [cell_other (by omega)]; exact h.c2
  · rw [cell_other (by omega)]; exact h.c3
  · rw [cell_other (by omega)]; exact h.c4
  · rw [cell_other (by omega)]; exact h.c5
  · rw [cell_other (by omega)]; exact h.c6
  · rw [cell_other (by omega)]; exact h.c7
  · rw [cell_other (by omega)]; exact h.c8
  · rw [World.frozen?_setCell]; exact h.f0
  · rw [World.frozen?_setCell]; exact h.f1
  · rw [World.frozen?_setCell]; exact h.f2
  · rw [World.frozen?_setCell]; exact h.f3
  · rw [World.frozen?_setCell]; exact h.f4
  · rw [World.frozen?_setCell]; exact h.f5
  · rw [World.frozen?_setCell]; exact h.f6
  · rw [World.frozen?_setCell]; exact h.f7
  · rw [World.frozen?_setCell]; exact h.f8
theorem EBox.setL {b : Nat} {s : ByteArray} {L U : Nat → Nat} {w : World} (h : EBox b s L U w) (V : Nat → Nat) : EBox b s V U ((((w.setCell ⟨b, 1, none⟩ (.int .u64 (V 0 : Nat))).setCell ⟨b, 2, none⟩ (.int .u64 (V 1 : Nat))).setCell ⟨b, 3, none⟩ (.int .u64 (V 2 : Nat))).setCell ⟨b, 4, none⟩ (.int .u64 (V 3 : Nat))) := by
  refine ⟨by simp only [World.size_setCell]; exact h.lt, ?_, ?_, ?_, ?_, ?_, ?_, ?_, ?_, ?_, ?_, ?_, ?_, ?_, ?_, ?_, ?_, ?_, ?_⟩
  · rw [cell_other (show 4 ≠ 0 by omega), cell_other (show 3 ≠ 0 by omega), cell_other (show 2 ≠ 0 by omega), cell_other (show 1 ≠ 0 by omega)]; exact h.c0
  · rw [cell_other (show 4 ≠ 1 by omega), cell_other (show 3 ≠ 1 by omega), cell_other (show 2 ≠ 1 by omega)]; refine cell_same (x := (.int .u64 ((L 0 : Nat) : Int))) ?_; exact h.c1
  · rw [cell_other (show 4 ≠ 2 by omega), cell_other (show 3 ≠ 2 by omega)]; refine cell_same (x := (.int .u64 ((L 1 : Nat) : Int))) ?_; rw [cell_other (show 1 ≠ 2 by omega)]; exact h.c2
  · rw [cell_other (show 4 ≠ 3 by omega)]; refine cell_same (x := (.int .u64 ((L 2 : Nat) : Int))) ?_; rw [cell_other (show 2 ≠ 3 by omega), cell_other (show 1 ≠ 3 by omega)]; exact h.c3
  · refine cell_same (x := (.int .u64 ((L 3 : Nat) : Int))) ?_; rw [cell_other (show 3 ≠ 4 by omega), cell_other (show 2 ≠ 4 by omega), cell_other (show 1 ≠ 4 by omega)]; exact h.c4
  · rw [cell_other (show 4 ≠ 5 by omega), cell_other (show 3 ≠ 5 by omega), cell_other (show 2 ≠ 5 by omega), cell_other (show 1 ≠ 5 by omega)]; exact h.c5
  · rw [cell_other (show 4 ≠ 6 by omega), cell_other (show 3 ≠ 6 by omega), cell_other (show 2 ≠ 6 by omega), cell_other (show 1 ≠ 6 by omega)]; exact h.c6
  · rw [cell_other (show 4 ≠ 7 by omega), cell_other (show 3 ≠ 7 by omega), cell_other (show 2 ≠ 7 by omega), cell_other (show 1 ≠ 7 by omega)]; exact h.c7
  · rw [cell_other (show 4 ≠ 8 by omega), cell_other (show 3 ≠ 8 by omega), cell_other (show 2 ≠ 8 by omega), cell_other (show 1 ≠ 8 by omega)]; exact h.c8
  · simp only [World.frozen?_setCell]; exact h.f0
  · simp only [World.frozen?_setCell]; exact h.f1
  · simp only [World.frozen?_setCell]; exact h.f2
  · simp only [World.frozen?_setCell]; exact h.f3
  · simp only [World.frozen?_setCell]; exact h.f4
  · simp only [World.frozen?_setCell]; exact h.f5
  · simp only [World.frozen?_setCell]; exact h.f6
  · simp only [World.frozen?_setCell]; exact h.f7
  · simp only [World.frozen?_setCell]; exact h.f8
theorem EBox.setU {b : Nat} {s : ByteArray} {L U : Nat → Nat} {w : World} (h : EBox b s L U w) (V : Nat → Nat) : EBox b s L V ((((w.setCell ⟨b, 5, none⟩ (.int .u64 (V 0 : Nat))).setCell ⟨b, 6, none⟩ (.int .u64 (V 1 : Nat))).setCell ⟨b, 7, none⟩ (.int .u64 (V 2 : Nat))).setCell ⟨b, 8, none⟩ (.int .u64 (V 3 : Nat))) := by
  refine ⟨by simp only [World.size_setCell]; exact h.lt, ?_, ?_, ?_, ?_, ?_, ?_, ?_, ?_, ?_, ?_, ?_, ?_, ?_, ?_, ?_, ?_, ?_, ?_⟩
  · rw [cell_other (show 8 ≠ 0 by omega), cell_other (show 7 ≠ 0 by omega), cell_other (show 6 ≠ 0 by omega), cell_other (show 5 ≠ 0 by omega)]; exact h.c0
  · rw [cell_other (show 8 ≠ 1 by omega), cell_other (show 7 ≠ 1 by omega), cell_other (show 6 ≠ 1 by omega), cell_other (show 5 ≠ 1 by omega)]; exact h.c1
  · rw [cell_other (show 8 ≠ 2 by omega), cell_other (show 7 ≠ 2 by omega), cell_other (show 6 ≠ 2 by omega), cell_other (show 5 ≠ 2 by omega)]; exact h.c2
  · rw [cell_other (show 8 ≠ 3 by omega), cell_other (show 7 ≠ 3 by omega), cell_other (show 6 ≠ 3 by omega), cell_other (show 5 ≠ 3 by omega)]; exact h.c3
  · rw [cell_other (show 8 ≠ 4 by omega), cell_other (show 7 ≠ 4 by omega), cell_other (show 6 ≠ 4 by omega), cell_other (show 5 ≠ 4 by omega)]; exact h.c4
  · rw [cell_other (show 8 ≠ 5 by omega), cell_other (show 7 ≠ 5 by omega), cell_other (show 6 ≠ 5 by omega)]; refine cell_same (x := (.int .u64 ((U 0 : Nat) : Int))) ?_; exact h.c5
  · rw [cell_other (show 8 ≠ 6 by omega), cell_other (show 7 ≠ 6 by omega)]; refine cell_same (x := (.int .u64 ((U 1 : Nat) : Int))) ?_; rw [cell_other (show 5 ≠ 6 by omega)]; exact h.c6
  · rw [cell_other (show 8 ≠ 7 by omega)]; refine cell_same (x := (.int .u64 ((U 2 : Nat) : Int))) ?_; rw [cell_other (show 6 ≠ 7 by omega), cell_other (show 5 ≠ 7 by omega)]; exact h.c7
  · refine cell_same (x := (.int .u64 ((U 3 : Nat) : Int))) ?_; rw [cell_other (show 7 ≠ 8 by omega), cell_other (show 6 ≠ 8 by omega), cell_other (show 5 ≠ 8 by omega)]; exact h.c8
  · simp only [World.frozen?_setCell]; exact h.f0
  · simp only [World.frozen?_setCell]; exact h.f1
  · simp only [World.frozen?_setCell]; exact h.f2
  · simp only [World.frozen?_setCell]; exact h.f3
  · simp only [World.frozen?_setCell]; exact h.f4
  · simp only [World.frozen?_setCell]; exact h.f5
  · simp only [World.frozen?_setCell]; exact h.f6
  · simp only [World.frozen?_setCell]; exact h.f7
  · simp only [World.frozen?_setCell]; exact h.f8
end Go.Dm
namespace Go.Proofs.YtopnllbfhhjobaaGreatDoor
open Go.RowKit Go.Dm
set_option maxHeartbeats 4000000 in
set_option maxRecDepth 100000 in
theorem qput_w (R : List EntQ) (v : Value) (w : World) (hm : R.length ≤ 1099511627776) (hR : FitT R) (hsz : (putQ R).length ≤ 1099511627776) (hx : Tree w v R) :
    Calls Tryz.prog 22 #[v] w fun r w' => r = .returned (.string ⟨(putQ R).toArray⟩) ∧ Ext w w' := by
  obtain ⟨q, cap, rfl, _, _⟩ := hx.shape
  have hn10 := putL_ten (u := R.length) (show R.length < _ by omega)
  have C0 := fun U => put_w R.length U (show R.length < _ by omega)
  have CT := fun (x : ByteArray) (h : x.size ≤ 1048576) U => puttext_w x U (by omega)
  have CV := fun (x : Vc) (h : OkV x) U => vput_w x h U
  have hpl := fun k => putN_len R k
  have hst := fun k (hk : k < R.length) => putN_step (R := R) hk
  have h0 : putN R 0 = putL R.length := by simp [putN]
  have hfin : putN R R.length = putQ R := by unfold putN putQ; rw [List.take_length]
  generalize putQ R = pq at *
  generalize putN R = pn at *
  unfold vVal vF at CV
  replace C0 := Lib.hid C0
  replace CT := Lib.hid CT
  replace CV := Lib.hid CV
  replace hpl := Lib.hid hpl
  replace hst := Lib.hid hst
  replace h0 := Lib.hid h0
  replace hfin := Lib.hid hfin
  go_enter Tryz.func22, Tryz.ntmps22
  have hcv : ((R.length : Int)) % 18446744073709551616 = (R.length : Int) := by omega
  have h0d : Hid ((⟨(putL R.length).toArray⟩ : ByteArray).data.toList = pn 0) := by show _ = _; rw [h0.out]
  have h0s : (⟨(putL R.length).toArray⟩ : ByteArray).size ≤ pq.length := by
    have := hpl.out 0
    rw [h0.out] at this
    show (putL R.length).toArray.size ≤ _
    rw [List.size_toArray]; exact this
  generalize (⟨(putL R.length).toArray⟩ : ByteArray) = b0 at *
  go_wp2_with fail
  refine (C0.out _).mono ?_; rintro e w1 ⟨rfl, h1⟩
  go_wp2
  go_loopw [3, 5, 12] (fun s _ i wr => ∃ (k : Nat) (b : ByteArray), k ≤ R.length ∧ i = .int .i64 k ∧ s = .string b ∧ b.size ≤ pq.length ∧ Ext w wr ∧ Hid (b.data.toList = pn k)) (fun _ _ i _ => R.length - (intOf i).toNat)
  case atStart => exact ⟨0, b0, by omega, rfl, rfl, h0s, h1, h0d⟩
  case round =>
    obtain ⟨k, b, hk, rfl, rfl, hbs, hb, HB⟩ := hrel
    by_cases hlt : k < R.length
    · obtain ⟨tb, toff, rfl, hbl, hcs⟩ := (hx.ext hb).at hlt
      have hxf := hR.at hlt
      have hS1 := hst.out k hlt
      obtain ⟨⟨xs, xl, xu⟩, hr⟩ : ∃ r, eAt R k = r := ⟨_, rfl⟩
      rw [hr] at hcs hxf hS1
      clear hr
      simp only at hxf
      obtain ⟨hxs, hxl, hxu⟩ := hxf
      have CT1 := fun U => CT.out xs hxs U
      have CV1 := fun U => CV.out xl hxl U
      have CV2 := fun U => CV.out xu hxu U
      have hl1 := hpl.out (k + 1)
      rw [hS1] at hl1
      have hs2 : (b ++ ((⟨(putT xs.data.toList).toArray⟩ ++ ⟨(putV xl).toArray⟩) ++ ⟨(putV xu).toArray⟩) : ByteArray).size ≤ pq.length := by
        rw [ByteArray.size_append, ByteArray.size_append, ByteArray.size_append]
        show b.data.toList.length + ((putT xs.data.toList).toArray.size + (putV xl).toArray.size + (putV xu).toArray.size) ≤ _
        rw [HB.out]
        simp only [putE, List.length_append, List.size_toArray] at hl1 ⊢
        omega
      have hd2 : Hid ((b ++ ((⟨(putT xs.data.toList).toArray⟩ ++ ⟨(putV xl).toArray⟩) ++ ⟨(putV xu).toArray⟩) : ByteArray).data.toList = pn (k + 1)) := by
        show _ = _
        rw [data_append, data_append, data_append, HB.out, hS1]
        rfl
      have hsT : (⟨(putT xs.data.toList).toArray⟩ : ByteArray).size ≤ 1048586 := by
        show (putT xs.data.toList).toArray.size ≤ _
        rw [List.size_toArray]
        have := putL_ten (u := xs.data.toList.length) (show xs.size < _ by omega)
        have h3 : xs.data.toList.length = xs.size := rfl
        unfold putT
        rw [List.length_append]
        omega
      have hsV : ∀ {x : Vc}, OkV x → (⟨(putV x).toArray⟩ : ByteArray).size ≤ 40 := fun {x} hx => by
        show (putV x).toArray.size ≤ _
        rw [List.size_toArray, ← putVF_four]
        exact putVF_len hx 4
      have hsL := hsV hxl
      have hsU := hsV hxu
      clear hl1 hS1 hsV
      generalize (⟨(putT xs.data.toList).toArray⟩ : ByteArray) = pT at *
      generalize (⟨(putV xl).toArray⟩ : ByteArray) = pL at *
      generalize (⟨(putV xu).toArray⟩ : ByteArray) = pU at *
      have hEb := EBox.new wr xs (vG xl) (vG xu) 38
      have hEn := (Ext.refl wr).alloc (.cells #[.string xs, .int .u64 (vG xl 0 : Nat), .int .u64 (vG xl 1 : Nat), .int .u64 (vG xl 2 : Nat), .int .u64 (vG xl 3 : Nat), .int .u64 (vG xu 0 : Nat), .int .u64 (vG xu 1 : Nat), .int .u64 (vG xu 2 : Nat), .int .u64 (vG xu 3 : Nat)] 38)
      have hbX := hb.trans hEn
      obtain ⟨X, hX⟩ : ∃ X, X = wr.alloc (.cells #[.string xs, .int .u64 (vG xl 0 : Nat), .int .u64 (vG xl 1 : Nat), .int .u64 (vG xl 2 : Nat), .int .u64 (vG xl 3 : Nat), .int .u64 (vG xu 0 : Nat), .int .u64 (vG xu 1 : Nat), .int .u64 (vG xu 2 : Nat), .int .u64 (vG xu 3 : Nat)] 38) := ⟨_, rfl⟩
      rw [← hX] at hEb hbX
      have hXl : wr.heap.size < X.heap.size := hEb.lt
      replace CT1 := Lib.hid CT1
      replace CV1 := Lib.hid CV1
      replace CV2 := Lib.hid CV2
      clear hEn
      have c0 := hcs 0 (by omega)
      have c1 := hcs 1 (by omega)
      have c2 := hcs 2 (by omega)
      have c3 := hcs 3 (by omega)
      have c4 := hcs 4 (by omega)
      have c5 := hcs 5 (by omega)
      have c6 := hcs 6 (by omega)
      have c7 := hcs 7 (by omega)
      have c8 := hcs 8 (by omega)
      simp only [entOne, uAt, List.getElem?_cons_zero, List.getElem?_cons_succ, Nat.add_zero] at c0 c1 c2 c3 c4 c5 c6 c7 c8
      clear hcs
      go_wp2_with fail
      rw [← hX]
      clear c0 c1 c2 c3 c4 c5 c6 c7 c8 hX
      obtain ⟨_, e0, e1, e2, e3, e4, e5, e6, e7, e8, _, _, _, _, _, _, _, _, _⟩ := id hEb
      refine Dm.wp_region_grow (by kernel_rfl) (by kernel_rfl) ?_
      repeat (go_big_quiet_step (first
        | (go_at_call 55; with_reducible exact Calls.quietE (CT1.out _))
        | (go_at_call 56; with_reducible exact Calls.quietE (CV1.out _))
        | (go_at_call 56; with_reducible exact Calls.quietE (CV2.out _))))
      refine wpQuiet_nil ?_
      intro w2 h2
      go_wp2
      go_roundw
      case rel => exact ⟨k + 1, _, by omega, by go_num, rfl, hs2, hbX.trans h2, hd2⟩
      case measure => simp [intOf]; omega
    · obtain rfl : k = R.length := by omega
      have hbe : Hid (b = ⟨pq.toArray⟩) := mk_bytes (by rw [HB.out, hfin.out])
      go_wp2
      go_ret
      exact ⟨by rw [← hbe.out]; rfl, hb⟩
set_option maxHeartbeats 8000000 in
set_option maxRecDepth 100000 in
theorem qentry_w (s : ByteArray) (i : Int) (w : World) (hs : s.size ≤ 281474976710656) :
    Calls Tryz.prog 46 #[.string s, .int .i64 i] w fun e w' => e = .returned (.tuple #[entVal (entI s.data.toList i).1, .int .i64 (entI s.data.toList i).2.1, .bool (entI s.data.toList i).2.2]) ∧ Ext w w' := by
  have CT := fun U => wgettext_w s i 98 U hs (by omega)
  have CV := fun (j : Int) U => vget_w s j U hs
  have hst : entI s.data.toList i = entJ s.data.toList (atI (getTextL 98) [] s.data.toList i) := rfl
  generalize entI s.data.toList i = E at *
  unfold entJ at hst
  generalize atI (getTextL 98) [] s.data.toList i = t at *
  generalize getV s.data.toList = gv at *
  obtain ⟨x, n, o⟩ := t
  unfold vVal vF at CV
  simp only at CT hst
  have hE : Ext w (w.alloc (.cells #[.string ⟨#[]⟩, .int .u64 0, .int .u64 0, .int .u64 0, .int .u64 0, .int .u64 0, .int .u64 0, .int .u64 0, .int .u64 0] 38)) := (Ext.refl _).alloc _
  have hB : EBox w.heap.size ⟨#[]⟩ (fun _ => 0) (fun _ => 0) (w.alloc (.cells #[.string ⟨#[]⟩, .int .u64 0, .int .u64 0, .int .u64 0, .int .u64 0, .int .u64 0, .int .u64 0, .int .u64 0, .int .u64 0] 38)) := EBox.new w _ _ _ _
  replace CT := Lib.hid CT
  replace CV := Lib.hid CV
  replace hst := Lib.hid hst
  go_enter Tryz.func46, Tryz.ntmps46
  go_wp2_with fail
  refine (CT.out _).mono ?_; rintro e w1 ⟨rfl, h1⟩
  replace hB := hB.ext h1
  replace hE := hE.trans h1
  clear h1
  generalize (⟨x.toArray⟩ : ByteArray) = xb at *
  obtain ⟨_, z0, z1, z2, z3, z4, z5, z6, z7, z8, f0, f1, f2, f3, f4, f5, f6, f7, f8⟩ := id hB
  change World.cell? _ _ = some (.int .u64 0) at  z1 z2 z3 z4 z5 z6 z7 z8
  cases o with
  | false =>
    have hE1 : E = (noEnt, 0, false) := hst.out
    go_wp2
    have hP := ((hB.far0 xb).put ⟨#[]⟩ (fun _ => 0) (fun _ => 0))
    unfold put9 at hP
    obtain ⟨_, k0, k1, k2, k3, k4, k5, k6, k7, k8, _, _, _, _, _, _, _, _, _⟩ := hP
    simp only [Int.cast_ofNat_Int] at k0 k1 k2 k3 k4 k5 k6 k7 k8
    refine bodyPost_ret (v := .tuple #[.agg #[.string ⟨#[]⟩, .int .u64 0, .int .u64 0, .int .u64 0, .int .u64 0, .int .u64 0, .int .u64 0, .int .u64 0, .int .u64 0], .int .i64 0, .bool false]) (by simp [results, Tryz.results46, go_sem, k0, k1, k2, k3, k4, k5, k6, k7, k8]) rfl ?_
    exact ⟨by rw [hE1]; rfl, Ext.put9 (hE.setCell (p := ⟨w.heap.size, 0, none⟩) (Nat.le_refl _) _) (b := w.heap.size) (Nat.le_refl _) ⟨#[]⟩ (fun _ => 0) (fun _ => 0)⟩
  | true =>
    have hst2 := hst.out
    rw [if_neg (by simp)] at hst2
    have CV1 := fun U => CV.out n U
    obtain ⟨⟨l, m, o2⟩, hg⟩ : ∃ g, gv n = g := ⟨_, rfl⟩
    rw [hg] at hst2 CV1
    clear hst hg
    simp only at hst2 CV1
    obtain ⟨L, hL⟩ : ∃ L : Nat → Nat, ∀ k, vG l k = L k := ⟨_, fun _ => rfl⟩
    simp only [hL] at CV1
    replace hL := Lib.hid hL
    replace hst := Lib.hid hst2
    clear hst2
    replace CV1 := Lib.hid CV1
    go_wp2_with fail
    refine (CV1.out _).mono ?_; rintro e w2 ⟨rfl, h2⟩
    replace hE := Ext.trans (hE.setCell (p := ⟨w.heap.size, 0, none⟩) (Nat.le_refl _) (.string xb)) h2
    replace hB := (hB.far0 xb).ext h2
    clear h2 z0 z1 z2 z3 z4 z5 z6 z7 z8 f0 f1 f2 f3 f4 f5 f6 f7 f8
    obtain ⟨_, z0, z1, z2, z3, z4, z5, z6, z7, z8, f0, f1, f2, f3, f4, f5, f6, f7, f8⟩ := id hB
    change World.cell? _ _ = some (.int .u64 0) at  z1 z2 z3 z4 z5 z6 z7 z8
    have hBL := hB.setL L
    have hEL := (((hE.setCell (p := ⟨w.heap.size, 1, none⟩) (Nat.le_refl _) (.int .u64 (L 0 : Nat))).setCell (p := ⟨w.heap.size, 2, none⟩) (Nat.le_refl _) (.int .u64 (L 1 : Nat))).setCell (p := ⟨w.heap.size, 3, none⟩) (Nat.le_refl _) (.int .u64 (L 2 : Nat))).setCell (p := ⟨w.heap.size, 4, none⟩) (Nat.le_refl _) (.int .u64 (L 3 : Nat))
    cases o2 with
    | false =>
      have hE1 : E = (noEnt, 0, false) := hst.out
      go_wp2
      have hP := hBL.put ⟨#[]⟩ (fun _ => 0) (fun _ => 0)
      unfold put9 at hP
      obtain ⟨_, k0, k1, k2, k3, k4, k5, k6, k7, k8, _, _, _, _, _, _, _, _, _⟩ := hP
      simp only [Int.cast_ofNat_Int] at k0 k1 k2 k3 k4 k5 k6 k7 k8
      refine bodyPost_ret (v := .tuple #[.agg #[.string ⟨#[]⟩, .int .u64 0, .int .u64 0, .int .u64 0, .int .u64 0, .int .u64 0, .int .u64 0, .int .u64 0, .int .u64 0], .int .i64 0, .bool false]) (by simp [results, Tryz.results46, go_sem, k0, k1, k2, k3, k4, k5, k6, k7, k8]) rfl ?_
      exact ⟨by rw [hE1]; rfl, Ext.put9 hEL (b := w.heap.size) (Nat.le_refl _) ⟨#[]⟩ (fun _ => 0) (fun _ => 0)⟩
    | true =>
      have hst2 := hst.out
      rw [if_neg (by simp)] at hst2
      have CV2 := fun U => CV.out m U
      obtain ⟨⟨u, m2, o3⟩, hg⟩ : ∃ g, gv m = g := ⟨_, rfl⟩
      rw [hg] at hst2 CV2
      clear hst hg
      simp only at hst2 CV2
      obtain ⟨U, hU⟩ : ∃ U : Nat → Nat, ∀ k, vG u k = U k := ⟨_, fun _ => rfl⟩
      simp only [hU] at CV2
      replace hU := Lib.hid hU
      replace hst := Lib.hid hst2
      clear hst2
      replace CV2 := Lib.hid CV2
      go_wp2_with fail
      refine (CV2.out _).mono ?_; rintro e w3 ⟨rfl, h3⟩
      replace hE := Ext.trans hEL h3
      replace hB := hBL.ext h3
      clear h3 z0 z1 z2 z3 z4 z5 z6 z7 z8 f0 f1 f2 f3 f4 f5 f6 f7 f8 hBL hEL
      obtain ⟨_, z0, z1, z2, z3, z4, z5, z6, z7, z8, f0, f1, f2, f3, f4, f5, f6, f7, f8⟩ := id hB
      change World.cell? _ _ = some (.int .u64 0) at  z5 z6 z7 z8
      have hBU := hB.setU U
      have hEU := (((hE.setCell (p := ⟨w.heap.size, 5, none⟩) (Nat.le_refl _) (.int .u64 (U 0 : Nat))).setCell (p := ⟨w.heap.size, 6, none⟩) (Nat.le_refl _) (.int .u64 (U 1 : Nat))).setCell (p := ⟨w.heap.size, 7, none⟩) (Nat.le_refl _) (.int .u64 (U 2 : Nat))).setCell (p := ⟨w.heap.size, 8, none⟩) (Nat.le_refl _) (.int .u64 (U 3 : Nat))
      have hP := hBU.put xb L U
      unfold put9 at hP
      obtain ⟨_, k0, k1, k2, k3, k4, k5, k6, k7, k8, _, _, _, _, _, _, _, _, _⟩ := hP
      obtain ⟨_, y0, y1, y2, y3, y4, y5, y6, y7, y8, _, _, _, _, _, _, _, _, _⟩ := id hBU
      go_wp2
      refine bodyPost_ret (v := .tuple #[.agg #[.string xb, .int .u64 (L 0 : Nat), .int .u64 (L 1 : Nat), .int .u64 (L 2 : Nat), .int .u64 (L 3 : Nat), .int .u64 (U 0 : Nat), .int .u64 (U 1 : Nat), .int .u64 (U 2 : Nat), .int .u64 (U 3 : Nat)], .int .i64 m2, .bool o3]) (by simp [results, Tryz.results46, go_sem, k0, k1, k2, k3, k4, k5, k6, k7, k8]) rfl ?_
      exact ⟨by rw [hst.out]; exact congrArg _ (congrArg _ (by unfold entVal uAt; simp only [hL.out, hU.out])), Ext.put9 hEU (b := w.heap.size) (Nat.le_refl _) xb L U⟩
end Go.Proofs.YtopnllbfhhjobaaGreatDoor

namespace Go.Dm
open Go Go.RowKit
theorem getI_u64q (l : Bs) (p : Int) : U64 (getI l p).1 := by
  unfold getI
  split
  · show (0 : Nat) < _; omega
  · cases h : getL (l.drop p.toNat) with
    | none => show (0 : Nat) < _; omega
    | some x => exact (getL_len h).2.2.2
theorem getVF_okVq {l : Bs} {p : Int} : ∀ {k ns q}, getVF l p k = some (ns, q) → ∀ x ∈ ns, U64 x
  | 0, ns, q, h => by simp [getVF] at h; rw [h.1]; simp
  | k + 1, ns, q, h => by
    unfold getVF at h
    cases e : getVF l p k with
    | none => rw [e] at h; simp at h
    | some x =>
      obtain ⟨ms, r⟩ := x
      rw [e] at h
      simp only at h
      split at h
      · simp at h
        rw [← h.1]
        intro x hx
        rcases List.mem_append.1 hx with hx | hx
        · exact getVF_okVq e x hx
        · rw [List.mem_singleton.1 hx]; exact getI_u64q _ _
      · simp at h
theorem getV_okVq (l : Bs) (p : Int) : OkV (getV l p).1 := by
  unfold getV
  cases h : getVF l p 4 with
  | none => exact okV_no
  | some x =>
    obtain ⟨ns, q⟩ := x
    refine ⟨getVF_len h, fun k => ?_⟩
    show U64 (ns.getD k 0)
    rw [List.getD_eq_getElem?_getD]
    cases e : ns[k]? with
    | none => show (0 : Nat) < _; omega
    | some x => exact getVF_okVq h x (List.mem_of_getElem? e)
theorem getTextL_fitq {most : Nat} {l t : Bs} {n : Nat} (h : getTextL most l = some (t, n)) : t.length ≤ most := by
  cases hg : getL l with
  | none => rw [getTextL_none hg] at h; cases h
  | some x =>
    obtain ⟨u, m⟩ := x
    rw [getTextL_some hg] at h
    split at h
    · rename_i hu
      injection h with h
      injection h with h1 h2
      rw [← h1, List.length_take]; omega
    · cases h
theorem entI_fit (l : Bs) (p : Int) : (entI l p).1.1.size ≤ 98 ∧ OkV (entI l p).1.2.1 ∧ OkV (entI l p).1.2.2 := by
  have h1 : (atI (getTextL 98) [] l p).1.length ≤ 98 := by
    unfold atI
    split
    · simp
    · split
      · rename_i h; exact getTextL_fitq h
      · simp
  unfold entI entJ
  split
  · exact ⟨Nat.zero_le _, okV_no, okV_no⟩
  · split
    · exact ⟨Nat.zero_le _, okV_no, okV_no⟩
    · refine ⟨?_, getV_okVq _ _, getV_okVq _ _⟩
      show ((atI (getTextL 98) [] l p).1.toArray).size ≤ 98
      rw [List.size_toArray]; exact h1
/-- So many entries that stand one behind the other. -/
def getEs (l : Bs) : Nat → Int → List EntQ → Option (List EntQ × Int)
  | 0, q, R => some (R, q)
  | k + 1, q, R => if (entI l q).2.2 = false ∨ ((entI l q).1 = noEnt ∧ R ≠ []) then none else getEs l k (entI l q).2.1 (R ++ [(entI l q).1])
def getQJ (l : Bs) (g : Nat × Int × Bool) : List EntQ × Int × Bool :=
  if g.2.2 = false ∨ 16 < g.1 then ([], 0, false)
  else match getEs l g.1 g.2.1 [] with
    | none => ([], 0, false)
    | some (R, q) => if rightQ R = true then (R, q, true) else ([], 0, false)
/-- P10.5: the tree that stands at a place. -/
def getQ (l : Bs) (p : Int) : List EntQ × Int × Bool := getQJ l (getI l p)
theorem getEs_fit {l : Bs} : ∀ {k : Nat} {q : Int} {R : List EntQ} {x : List EntQ × Int}, FitT R → (∀ r ∈ R, r.1.size ≤ 98) → getEs l k q R = some x → (FitT x.1 ∧ ∀ r ∈ x.1, r.1.size ≤ 98) ∧ x.1.length = R.length + k
  | 0, q, R, x, h, h2, e => by
    injection e with e
    subst e
    exact ⟨⟨h, h2⟩, by simp⟩
  | k + 1, q, R, x, h, h2, e => by
    unfold getEs at e
    split at e
    · cases e
    · have hf := entI_fit l q
      have h3 : ∀ r ∈ R ++ [(entI l q).1], r.1.size ≤ 98 := fun r hr => by
        rcases List.mem_append.1 hr with hr | hr
        · exact h2 r hr
        · rw [List.mem_singleton.1 hr]; exact hf.1
      have := getEs_fit (R := R ++ [(entI l q).1]) ⟨fun r hr => by have := h3 r hr; omega, fun r hr => by
        rcases List.mem_append.1 hr with hr | hr
        · exact h.lim r hr
        · rw [List.mem_singleton.1 hr]; exact hf.2.1, fun r hr => by
        rcases List.mem_append.1 hr with hr | hr
        · exact h.used r hr
        · rw [List.mem_singleton.1 hr]; exact hf.2.2⟩ h3 e
      refine ⟨this.1, ?_⟩
      rw [this.2, List.length_append]
      simp; omega
theorem getQ_fit (l : Bs) (p : Int) : FitT (getQ l p).1 ∧ (getQ l p).1.length ≤ 16 ∧ ∀ r ∈ (getQ l p).1, r.1.size ≤ 98 := by
  unfold getQ getQJ
  split
  · exact ⟨FitT.nil, by simp, by simp⟩
  · rename_i hn
    split
    · exact ⟨FitT.nil, by simp, by simp⟩
    · rename_i R q h
      have := getEs_fit FitT.nil (by simp) h
      split
      · refine ⟨this.1.1, ?_, this.1.2⟩
        have h2 := this.2
        simp only [List.length_nil] at h2
        show R.length ≤ 16
        omega
      · exact ⟨FitT.nil, by simp, by simp⟩
end Go.Dm
namespace Go.Proofs.YtopnllbfhhjobaaGreatDoor
open Go.RowKit Go.Dm
set_option maxHeartbeats 8000000 in
set_option maxRecDepth 100000 in
theorem qget_w (s : ByteArray) (i : Int) (w : World) (hs : s.size ≤ 281474976710656) (ht : Vars w) :
    Calls Tryz.prog 16 #[.string s, .int .i64 i] w fun e w' => ∃ v, e = .returned (.tuple #[v, .int .i64 (getQ s.data.toList i).2.1, .bool (getQ s.data.toList i).2.2]) ∧ Tree w' v (getQ s.data.toList i).1 ∧ Ext w w' := by
  have C0 := fun U => wget_w s i U hs
  have hu := getI_u64q s.data.toList i
  have CE := fun (j : Int) U => qentry_w s j U hs
  have hfit := fun (j : Int) => entI_fit s.data.toList j
  have hst : getQ s.data.toList i = getQJ s.data.toList (getI s.data.toList i) := rfl
  generalize getQ s.data.toList i = E at *
  unfold getQJ at hst
  have hs0 := fun q R => show getEs s.data.toList 0 q R = some (R, q) from rfl
  have hs1 := fun k q R => show getEs s.data.toList (k + 1) q R = if (entI s.data.toList q).2.2 = false ∨ ((entI s.data.toList q).1 = noEnt ∧ R ≠ []) then none else getEs s.data.toList k (entI s.data.toList q).2.1 (R ++ [(entI s.data.toList q).1]) from rfl
  generalize getEs s.data.toList = ge at *
  generalize entI s.data.toList = ei at *
  generalize getI s.data.toList i = g at *
  obtain ⟨N, q0, o⟩ := g
  simp only at C0 hst hu
  unfold entVal uAt at CE
  have CR := fun (R : List EntQ) (v : Value) U (h : Ext w U) (hR : FitT R) (hl : R.length ≤ 16) (hx : Tree U v R) => qright_w R v U (by omega) hR hx (ht.ext h)
  replace C0 := Lib.hid C0
  replace CE := Lib.hid CE
  replace CR := Lib.hid CR
  replace hst := Lib.hid hst
  replace hs0 := Lib.hid hs0
  replace hs1 := Lib.hid hs1
  replace hfit := Lib.hid hfit
  go_enter Tryz.func16, Tryz.ntmps16
  go_wp2_with fail
  refine (C0.out _).mono ?_; rintro e w1 ⟨rfl, h1⟩
  cases o with
  | false =>
    have hE := hst.out
    rw [if_pos (Or.inl rfl)] at hE
    clear hst
    go_wp2
    refine bodyPost_ret (results3 rfl _ _ _) rfl ?_
    exact ⟨_, by rw [hE]; rfl, by rw [hE]; exact Tree.nil _, h1⟩
  | true =>
  by_cases hN : 16 < N
  · have hE := hst.out
    rw [if_pos (Or.inr hN)] at hE
    clear hst
    have hNi : (16 : Int) < (N : Int) := by omega
    go_wp2
    refine bodyPost_ret (results3 rfl _ _ _) rfl ?_
    exact ⟨_, by rw [hE]; rfl, by rw [hE]; exact Tree.nil _, h1⟩
  have hst2 := hst.out
  rw [if_neg (fun h => h.elim (by simp) hN)] at hst2
  replace hst := Lib.hid hst2
  clear hst2
  have hNi : ¬ (16 : Int) < (N : Int) := by omega
  go_wp2
  go_loopw [1, 4, 8, 9, 10, 25] (fun a t _ _ _ i wr => ∃ (R : List EntQ) (q : Int), R.length ≤ N ∧ i = .int .u64 R.length ∧ a = .int .i64 q ∧ wr.ownsRow w.heap.size 38 9 t R.length (entCellsQ R) ∧ FitT R ∧ Ext w wr ∧ Hid (ge N q0 [] = ge (N - R.length) q R)) (fun _ _ _ _ _ i _ => N - (intOf i).toNat)
  case atStart => exact ⟨[], q0, by simp, rfl, rfl, World.ownsRow_nil _ _ _ _, FitT.nil, h1, rfl⟩
  case round =>
    obtain ⟨R, q, hk, rfl, rfl, ho, hR, hb, HG⟩ := hrel
    obtain ⟨p, cap, rfl, _, _⟩ := (Sl.of_owns ho).shape
    by_cases hlt : R.length < N
    · have C := fun U => CE.out q U
      have hS := hs1.out (N - (R.length + 1)) q R
      rw [show N - (R.length + 1) + 1 = N - R.length by omega] at hS
      have HG1 := HG.out
      rw [hS] at HG1
      clear hS HG
      have hf := hfit.out q
      obtain ⟨⟨⟨xs, xl, xu⟩, q2, ok⟩, hr⟩ : ∃ r, ei q = r := ⟨_, rfl⟩
      rw [hr] at C HG1 hf
      clear hr
      simp only at C HG1 hf
      obtain ⟨hxs, hxl, hxu⟩ := hf
      have hq := fun U => run_eql_entQ (eqEnt (a := (xs, xl, xu)) (b := noEnt) ⟨by show xs.size ≤ _; unfold maxLen; omega, hxl, hxu⟩ ⟨Nat.zero_le _, okV_no, okV_no⟩ U)
      have hq2 : ∀ U, (binOp .eql 38 (.agg #[.string xs, .int .u64 (vG xl 0 : Nat), .int .u64 (vG xl 1 : Nat), .int .u64 (vG xl 2 : Nat), .int .u64 (vG xl 3 : Nat), .int .u64 (vG xu 0 : Nat), .int .u64 (vG xu 1 : Nat), .int .u64 (vG xu 2 : Nat), .int .u64 (vG xu 3 : Nat)]) (.agg #[.string ⟨#[]⟩, .int .u64 0, .int .u64 0, .int .u64 0, .int .u64 0, .int .u64 0, .int .u64 0, .int .u64 0, .int .u64 0])).run Tryz.prog U = .ok (.bool (decide ((xs, xl, xu) = noEnt))) U := hq
      clear hq
      replace C := Lib.hid C
      have hcl : entOne (xs, xl, xu) = [.string xs, .int .u64 (vG xl 0 : Nat), .int .u64 (vG xl 1 : Nat), .int .u64 (vG xl 2 : Nat), .int .u64 (vG xl 3 : Nat), .int .u64 (vG xu 0 : Nat), .int .u64 (vG xu 1 : Nat), .int .u64 (vG xu 2 : Nat), .int .u64 (vG xu 3 : Nat)] := rfl
      have hfs : FitT (R ++ [(xs, xl, xu)]) := by
        refine ⟨fun r hr => ?_, fun r hr => ?_, fun r hr => ?_⟩ <;> rcases List.mem_append.1 hr with hr | hr
        · exact hR.path r hr
        · rw [List.mem_singleton.1 hr]; show xs.size ≤ _; omega
        · exact hR.lim r hr
        · rw [List.mem_singleton.1 hr]; exact hxl
        · exact hR.used r hr
        · rw [List.mem_singleton.1 hr]; exact hxu
      go_wp2_with fail
      refine (C.out _).mono ?_; rintro e w3 ⟨rfl, h3⟩
      have hEb := EBox.new w3 xs (vG xl) (vG xu) 38
      have hEn := (Ext.refl w3).alloc (.cells #[.string xs, .int .u64 (vG xl 0 : Nat), .int .u64 (vG xl 1 : Nat), .int .u64 (vG xl 2 : Nat), .int .u64 (vG xl 3 : Nat), .int .u64 (vG xu 0 : Nat), .int .u64 (vG xu 1 : Nat), .int .u64 (vG xu 2 : Nat), .int .u64 (vG xu 3 : Nat)] 38)
      have ho3 := Ext.row (Ext.row ho h3) hEn
      have hb3 := (hb.trans h3).trans hEn
      obtain ⟨_, e0, e1, e2, e3, e4, e5, e6, e7, e8, _, _, _, _, _, _, _, _, _⟩ := id hEb
      clear hEn
      cases ok with
      | false =>
        have hE := hst.out
        rw [HG1, if_pos (Or.inl rfl)] at hE
        simp only at hE
        clear hst HG1 hq2
        go_wp2
        refine bodyPost_ret (results3 rfl _ _ _) rfl ?_
        exact ⟨_, by rw [hE]; rfl, by rw [hE]; exact Tree.nil _, hb3⟩
      | true =>
      by_cases hz : (xs, xl, xu) = noEnt ∧ 0 < R.length
      · obtain ⟨hz1, hz2⟩ := hz
        have hE := hst.out
        rw [HG1, if_pos (Or.inr ⟨hz1, by rintro rfl; simp at hz2⟩)] at hE
        simp only at hE
        rw [decide_eq_true hz1] at hq2
        clear hst HG1 hz1
        have hRi : (0 : Int) < (R.length : Int) := by omega
        go_wp2
        refine bodyPost_ret (results3 rfl _ _ _) rfl ?_
        exact ⟨_, by rw [hE]; rfl, by rw [hE]; exact Tree.nil _, hb3⟩
      · have HG2 := HG1
        rw [if_neg (fun h => h.elim (by simp) (fun h => hz ⟨h.1, List.length_pos_iff.2 h.2⟩))] at HG2
        replace HG2 := Lib.hid HG2
        clear HG1
        have hone : ∀ u ∈ (#[.string xs, .int .u64 (vG xl 0 : Nat), .int .u64 (vG xl 1 : Nat), .int .u64 (vG xl 2 : Nat), .int .u64 (vG xl 3 : Nat), .int .u64 (vG xu 0 : Nat), .int .u64 (vG xu 1 : Nat), .int .u64 (vG xu 2 : Nat), .int .u64 (vG xu 3 : Nat)] : Array Value).toList, u.oneCell' = true := entOne_one (xs, xl, xu)
        have hsl := Sl.lit (w3.alloc (.cells #[.string xs, .int .u64 (vG xl 0 : Nat), .int .u64 (vG xl 1 : Nat), .int .u64 (vG xl 2 : Nat), .int .u64 (vG xl 3 : Nat), .int .u64 (vG xu 0 : Nat), .int .u64 (vG xu 1 : Nat), .int .u64 (vG xu 2 : Nat), .int .u64 (vG xu 3 : Nat)] 38)) 38 9 1 #[.string xs, .int .u64 (vG xl 0 : Nat), .int .u64 (vG xl 1 : Nat), .int .u64 (vG xl 2 : Nat), .int .u64 (vG xl 3 : Nat), .int .u64 (vG xu 0 : Nat), .int .u64 (vG xu 1 : Nat), .int .u64 (vG xu 2 : Nat), .int .u64 (vG xu 3 : Nat)] rfl (by simp [maxLen])
        rw [World.size_alloc] at hsl
        replace hsl := Lib.hid hsl
        by_cases hz1 : (xs, xl, xu) = noEnt
        · rw [decide_eq_true hz1] at hq2
          have hk0 : R.length = 0 := by
            rcases Nat.eq_zero_or_pos R.length with h | h
            · exact h
            · exact absurd ⟨hz1, h⟩ hz
          obtain rfl : R = [] := List.eq_nil_of_length_eq_zero hk0
          clear hz hz1 hk0
          go_wp2_with (at_builtin; go_must (refine wpList_appE (n := 0) (m := 1) rfl _ _ Tryz.slEntQ rfl (hb3.trans ((Ext.refl _).alloc _)) rfl (Ext.row ho3 ((Ext.refl _).alloc _)) rfl hsl.out hone (by omega) ?_; intro v5 w5 ho5 hb5 _))
          go_roundw
          case rel => exact ⟨[] ++ [(xs, xl, xu)], q2, by simp; omega, by rw [List.length_append]; go_num, rfl, by rw [List.length_append, entCellsQ_app]; exact ho5, hfs, hb5, by rw [List.length_append]; exact HG2.out⟩
          case measure => simp [intOf]; omega
        · rw [decide_eq_false hz1] at hq2
          clear hz hz1
          go_wp2_with (at_builtin; go_must (refine wpList_appE (n := R.length) (m := 1) rfl _ _ Tryz.slEntQ rfl (hb3.trans ((Ext.refl _).alloc _)) rfl (Ext.row ho3 ((Ext.refl _).alloc _)) rfl hsl.out hone (by omega) ?_; intro v5 w5 ho5 hb5 _))
          go_roundw
          case rel => exact ⟨R ++ [(xs, xl, xu)], q2, by simp; omega, by rw [List.length_append]; go_num, rfl, by rw [List.length_append, entCellsQ_app]; exact ho5, hfs, hb5, by rw [List.length_append]; exact HG2.out⟩
          case measure => simp [intOf]; omega
    · obtain rfl : N = R.length := by omega
      have hT : Tree wr (.slice p R.length cap) R := Tree.of_row ho rfl
      have C := CR.out R _ wr hb hR (by omega) hT
      have hE := hst.out
      rw [HG.out, Nat.sub_self, hs0.out] at hE
      simp only at hE
      clear hst HG
      cases hd : rightQ R with
      | false =>
        rw [hd] at C hE
        rw [if_neg (by simp)] at hE
        replace C := Lib.hid C
        clear hd
        go_wp2_with fail
        refine C.out.mono ?_; rintro e w3 ⟨rfl, h3⟩
        go_wp2
        refine bodyPost_ret (results3 rfl _ _ _) rfl ?_
        exact ⟨_, by rw [hE]; rfl, by rw [hE]; exact Tree.nil _, hb.trans h3⟩
      | true =>
        rw [hd] at C hE
        rw [if_pos rfl] at hE
        replace C := Lib.hid C
        clear hd
        go_wp2_with fail
        refine C.out.mono ?_; rintro e w3 ⟨rfl, h3⟩
        go_wp2
        refine bodyPost_ret (results3 rfl _ _ _) rfl ?_
        exact ⟨_, by rw [hE]; rfl, by rw [hE]; exact hT.ext h3, hb.trans h3⟩
end Go.Proofs.YtopnllbfhhjobaaGreatDoor

namespace Go.Dm
open Go Go.RowKit
def FitE (e : EntQ) : Prop := e.1.size ≤ 1048576 ∧ OkV e.2.1 ∧ OkV e.2.2
theorem fitT_iff {R : List EntQ} : FitT R ↔ ∀ e ∈ R, FitE e :=
  ⟨fun h e he => ⟨h.path e he, h.lim e he, h.used e he⟩, fun h => ⟨fun e he => (h e he).1, fun e he => (h e he).2.1, fun e he => (h e he).2.2⟩⟩
theorem fitE_at {R : List EntQ} (h : FitT R) (k : Nat) : FitE (eAt R k) := by
  by_cases hk : k < R.length
  · exact h.at hk
  · have e : eAt R k = noEnt := by simp [eAt, List.getElem?_eq_none (Nat.le_of_not_lt hk)]
    rw [e]
    exact ⟨Nat.zero_le _, okV_no, okV_no⟩
theorem fitT_set {R : List EntQ} (h : FitT R) {e : EntQ} (he : FitE e) (k : Nat) : FitT (R.set k e) := by
  rw [fitT_iff] at h ⊢
  intro x hx
  rcases List.mem_or_eq_of_mem_set hx with hx | rfl
  · exact h x hx
  · exact he
theorem setT_fit {R : List EntQ} {p : ByteArray} {lim : Vc} (h : FitT R) (hp : p.size ≤ 1048576) (hl : OkV lim) : FitT (setT R p lim).1 ∧ (setT R p lim).1.length ≤ R.length + 1 := by
  unfold setT
  split
  · exact ⟨h, Nat.le_succ _⟩
  · split
    · exact ⟨h, Nat.le_succ _⟩
    · split
      · exact ⟨h, Nat.le_succ _⟩
      · split
        · exact ⟨h, Nat.le_succ _⟩
        · split
          · have := fitE_at h (plN R p)
            exact ⟨fitT_set (e := ((eAt R (plN R p)).1, lim, (eAt R (plN R p)).2.2)) h ⟨this.1, hl, this.2.2⟩ _, by simp⟩
          · refine ⟨?_, by have := List.take_append_drop (upN R p) R; have h2 := congrArg List.length this; simp only [List.length_append] at h2; simp only [List.length_append, List.length_cons]; omega⟩
            rw [fitT_iff] at h ⊢
            intro x hx
            rcases List.mem_append.1 hx with hx | hx
            · exact h x (List.mem_of_mem_take hx)
            · rcases List.mem_cons.1 hx with rfl | hx
              · exact ⟨hp, hl, okV_no⟩
              · exact h x (List.mem_of_mem_drop hx)
theorem chgE_fit {v : Vc} {e : EntQ} (h : FitE e) : FitE (chgE v e).1 := by
  unfold chgE
  split
  · exact h
  · rename_i hd
    split
    · exact h
    · exact ⟨h.1, h.2.1, vadd_okV (by simpa using hd)⟩
theorem vsub_okV {a b : Vc} (h : OkV a) : OkV (vsub a b) := by
  have h2 : ∀ k, U64 (vG a k - vG b k) := fun k => Nat.lt_of_le_of_lt (Nat.sub_le _ _) (h.u64 k)
  exact okV_mk (h2 0) (h2 1) (h2 2) (h2 3)
theorem rfdE_fit {v : Vc} {e : EntQ} (h : FitE e) : FitE (rfdE v e).1 := by
  unfold rfdE
  split
  · exact h
  · exact ⟨h.1, h.2.1, vsub_okV h.2.2⟩
theorem eachF_fit {t : List EntQ} {f : EntQ → EntQ × Nat} (h : FitT t) (hf : ∀ e, FitE e → FitE (f e).1) : ∀ (l : List ByteArray) (out : List EntQ), FitT out → out.length = t.length → FitT (eachF t f l out).1 ∧ (eachF t f l out).1.length = t.length
  | [], out, ho, hl => ⟨ho, hl⟩
  | p :: ps, out, ho, hl => by
    unfold eachF
    split
    · exact eachF_fit h hf ps _ (fitT_set ho (hf _ (fitE_at h _)) _) (by rw [List.length_set]; exact hl)
    · exact ⟨h, rfl⟩
theorem eachT_fit {t : List EntQ} {p : ByteArray} {f : EntQ → EntQ × Nat} (h : FitT t) (hf : ∀ e, FitE e → FitE (f e).1) : FitT (eachT t p f).1 ∧ (eachT t p f).1.length = t.length := by
  unfold eachT
  split
  · exact ⟨h, rfl⟩
  · split
    · exact ⟨h, rfl⟩
    · exact eachF_fit h hf _ _ h rfl
theorem findQ_fit {t : List EntQ} {p : ByteArray} (h : FitT t) : FitE (findQ t p).1 := by
  unfold findQ
  split
  · exact fitE_at h _
  · exact ⟨Nat.zero_le _, okV_no, okV_no⟩
end Go.Dm

namespace Go.Proofs.YtopnllbfhhjobaaGreatDoor
open Go.RowKit Go.Dm

set_option maxHeartbeats 2000000 in
set_option maxRecDepth 100000 in
theorem dfind_w (R : List EntQ) (p : ByteArray) (v : Value) (w : World) (hm : R.length ≤ 1099511627776) (hx : Tree w v R) :
    Calls Tryz.prog 34 #[v, .string p] w fun e w' => e = .returned (.int .i64 (plI R p)) ∧ Ext w w' := by
  obtain ⟨q, cap, rfl, _, _⟩ := hx.shape
  go_enter Tryz.func34, Tryz.ntmps34
  go_wp2
  go_loopw [5] (fun i wr => ∃ k : Nat, k ≤ R.length ∧ i = .int .i64 k ∧ Ext w wr ∧ Hid (∀ j, j < k → (eAt R j).1 ≠ p)) (fun i _ => R.length - (intOf i).toNat)
  case atStart => exact ⟨0, by omega, rfl, Ext.refl w, fun j hj => by omega⟩
  case round =>
    obtain ⟨k, hk', rfl, hb, HN⟩ := hrel
    by_cases hlt : k < R.length
    · obtain ⟨b, off, rfl, hbl, hcs⟩ := (hx.ext hb).at hlt
      have hY : Hid ((eAt R k).1 = p → plI R p = k) := fun h => plI_hit hlt HN.out h
      have hN2 : Hid ((eAt R k).1 ≠ p → ∀ j, j < k + 1 → (eAt R j).1 ≠ p) := fun h j hj => by
        rcases Nat.lt_succ_iff_lt_or_eq.1 hj with h' | rfl
        · exact HN.out j h'
        · exact h
      have c0 := hcs 0 (by omega)
      simp only [entOne, uAt, List.getElem?_cons_zero, Nat.add_zero] at c0
      clear hcs
      have hbb := beq_bytes (eAt R k).1 p
      by_cases he : (eAt R k).1 = p
      · replace hY := Lib.hid (hY.out he)
        rw [decide_eq_true he] at hbb
        clear hN2 he
        generalize (eAt R k).1 = s at *
        go_wp2
        go_ret
        exact ⟨by rw [hY.out]; rfl, hb⟩
      · replace hN2 := Lib.hid (hN2.out he)
        rw [decide_eq_false he] at hbb
        have hne : ¬ (eAt R k).1.toList = p.toList := fun h => he (bytes_eq.1 (by simpa using h))
        clear hY he
        generalize (eAt R k).1 = s at c0 hbb hne
        go_wp2
        go_roundw
        case rel => exact ⟨k + 1, by omega, by go_num, hb, hN2⟩
        case measure => simp [intOf]; omega
    · obtain rfl : k = R.length := by omega
      have hY : Hid (plI R p = -1) := plI_miss HN.out
      go_wp2
      go_ret
      exact ⟨by rw [hY.out]; rfl, hb⟩

set_option maxHeartbeats 1000000 in
theorem daboveO_w (p : ByteArray) (w : World) (hs : p.size ≤ 1048576) :
    Calls Tryz.prog 41 #[.string p] w fun e w' => ∃ v, e = .returned v ∧ w'.ownsRow w.heap.size 9 1 v (abvB p).length ((abvB p).map .string) ∧ Ext w w' := by
  have h6a := (Ext.refl w).alloc (.cells #[.string ⟨#[]⟩] 9)
  have CU2 := rups_w p (w.alloc (.cells #[.string ⟨#[]⟩] 9)) hs
  replace CU2 := Lib.hid CU2
  go_enter Tryz.func41, Tryz.ntmps41
  go_wp2_with fail
  refine CU2.out.mono ?_; rintro e w1 ⟨r, rfl, ⟨ss, hss, hP⟩, h6⟩
  obtain rfl : ss = upsB p := bytesOf_inj (by rw [hP, upsB_bytes])
  have ho0 : (w.alloc (.cells #[.string ⟨#[]⟩] 9)).ownsRow w.heap.size 9 1 (.slice (some ⟨w.heap.size, 0, none⟩) 1 1) 1 [.string ⟨#[]⟩] := World.ownsRow_lit w #[.string ⟨#[]⟩] 1 (Nat.le_refl _) (by simp [maxLen]) rfl
  have hsl6 : Sl w1 1 r (upsB p).length ((upsB p).map .string) := hss
  have hones : ∀ u ∈ (upsB p).map Value.string, u.oneCell' = true := fun u hu => by
    obtain ⟨x, _, rfl⟩ := List.mem_map.1 hu; rfl
  have h6' := h6a.trans h6
  have ho0' := Ext.row ho0 h6
  have hul : (upsB p).length ≤ 3 := upsB_len _
  obtain ⟨ra, rc, rfl⟩ : ∃ a c, r = .slice a (upsB p).length c := by
    obtain ⟨a, c, e, _⟩ := hsl6.shape; exact ⟨a, c, e⟩
  have hfin : ∀ (w' : World) (r' : Value), w'.ownsRow w.heap.size 9 1 r' (1 + (upsB p).length) ([.string ⟨#[]⟩] ++ (upsB p).map .string) → w'.ownsRow w.heap.size 9 1 r' (abvB p).length ((abvB p).map .string) := fun _ _ h => by
    rw [show (abvB p).length = 1 + (upsB p).length from Nat.add_comm _ _]
    exact h
  replace hfin := Lib.hid hfin
  clear hP hss CU2
  generalize upsB p = us at *
  go_wp2_with (at_builtin; go_must (refine wpList_appE (n := 1) (m := us.length) rfl _ _ Tryz.slStr rfl h6' rfl ho0' rfl hsl6 hones (by omega) ?_; intro vl wl hol hbl _))
  go_ret
  exact ⟨_, rfl, hfin.out _ _ hol, hbl⟩

theorem dabove_w (p : ByteArray) (w : World) (hs : p.size ≤ 1048576) :
    Calls Tryz.prog 41 #[.string p] w fun e w' => ∃ v, e = .returned v ∧ Strs w' v (abvB p) ∧ Ext w w' :=
  (daboveO_w p w hs).mono fun _ _ ⟨v, h1, h2, h3⟩ => ⟨v, h1, Strs.of_row h2 rfl, h3⟩

set_option maxHeartbeats 1000000 in
theorem dnamed_w (p : ByteArray) (w : World) (hs : p.size ≤ 1048576) :
    Calls Tryz.prog 35 #[.string p] w fun e w' => e = .returned (.bool (namB p)) ∧ Ext w w' := by
  by_cases h : p = ⟨#[]⟩
  · have hn : namB p = true := by unfold namB; rw [decide_eq_true h]; rfl
    rw [hn]
    clear hn
    subst h
    go_enter Tryz.func35, Tryz.ntmps35
    go_wp2
    go_ret
    exact ⟨rfl, Ext.refl _⟩
  · have C := rparts_w p w (by omega)
    have hn : namB p = decide (0 < (partsL p.data.toList).length) := by
      unfold namB
      rw [decide_eq_false h, Bool.false_or]
      by_cases hp : partsL p.data.toList = []
      · rw [under_none hp, hp]; rfl
      · rw [under_self hp]
        exact (decide_eq_true (List.length_pos_iff.2 hp)).symm
    rw [hn]
    have hne2 : p.toList.isEmpty = false := by
      rw [List.isEmpty_eq_false_iff, ByteArray.toList_eq]
      intro e
      exact h (mk_bytes e)
    have hne3 : ¬ p.toList = [] := by rw [← List.isEmpty_iff, hne2]; simp
    clear hn h
    generalize partsL p.data.toList = P at *
    replace C := Lib.hid C
    go_enter Tryz.func35, Tryz.ntmps35
    go_wp2_with fail
    refine C.out.mono ?_; rintro e w1 ⟨r, rfl, ⟨ss, hss, hP⟩, h1⟩
    obtain ⟨a, c, rfl, _, _⟩ := hss.shape
    have hl : ss.length = P.length := by rw [← hP]; simp [bytesOf]
    replace hl := Lib.hid hl
    go_wp2
    go_ret
    exact ⟨by rw [← hl.out]; simp, h1⟩

theorem dparent_w (p : ByteArray) (w : World) (hs : p.size ≤ 1048576) (hp : 2 ≤ (abvB p).length) :
    Calls Tryz.prog 36 #[.string p] w fun e w' => e = .returned (.string (parB p)) ∧ Ext w w' := by
  have C := dabove_w p w hs
  have h4 : (abvB p).length ≤ 4 := by have := upsB_len p; simp [abvB]; omega
  have hpar : parB p = strAt (abvB p) ((abvB p).length - 2) := rfl
  generalize abvB p = l at *
  generalize parB p = r at *
  replace C := Lib.hid C
  replace hpar := Lib.hid hpar
  obtain ⟨m, hm⟩ : ∃ m, l.length - 2 = m := ⟨_, rfl⟩
  have hmi : (l.length : Int) - 2 = (m : Int) := by omega
  go_enter Tryz.func36, Tryz.ntmps36
  go_wp2_with fail
  refine C.out.mono ?_; rintro e w1 ⟨v, rfl, hx, h1⟩
  obtain ⟨q, cap, rfl, _, _⟩ := hx.shape
  obtain ⟨b, off, rfl, hbl, c0⟩ := hx.at (k := m) (by omega)
  go_wp2
  go_ret
  exact ⟨by rw [hpar.out, hm]; rfl, h1⟩
end Go.Proofs.YtopnllbfhhjobaaGreatDoor
