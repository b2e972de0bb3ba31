/- Texts one behind the other: Two entries are compared. No program in sight; Chapter 10: the walks of Put, entry; Chapter 10: the walk of Get; Chapter 10: the program's functions over the eight paths; Chapter 10: the walks of the laws' helpers same, paths, amount. -/
import Derived.Test.YtopnllbfhhjobaaDoorT10
import Derived.Test.YtopnllbfhhjobaaDoorT15
import Derived.DeepKeys
import Derived.Test.YtopnllbfhhjobaaDoorT14
import Derived.Test.YtopnllbfhhjobaaDoorT17
namespace Go.Dm
open Go Go.RowKit
theorem u64_wf {n : Nat} (h : U64 n) : (Lit.int .u64 (n : Nat)).wf = true := by
  unfold U64 at h
  simp [Lit.wf, IntKind.min, IntKind.max, IntKind.signed, IntKind.bits]
  omega
def vLits (A : Nat → Nat) : List Lit := [.int .u64 (A 0 : Nat), .int .u64 (A 1 : Nat), .int .u64 (A 2 : Nat), .int .u64 (A 3 : Nat)]
theorem keyLits_vec {P : Program} {t q : TypeId} (ht : P.underlying t = some (.array 4 q)) (hq : P.underlying q = some (.int .u64)) (ct : P.cellsOf t = 4) (cq : P.cellsOf q = 1) {A : Nat → Nat} (hA : ∀ k, U64 (A k)) (D : Nat) :
    P.keyLits (D + 2) t [.int .u64 (A 0 : Nat), .int .u64 (A 1 : Nat), .int .u64 (A 2 : Nat), .int .u64 (A 3 : Nat)] = some (vLits A) := by
  have h1 : ∀ k, P.keyLits (D + 1) q [.int .u64 (A k : Nat)] = some [.int .u64 (A k : Nat)] := fun k => by
    unfold Program.keyLits
    rw [hq]
    simp only [u64_wf (hA k), and_self, if_true]
  unfold Program.keyLits
  rw [ht]
  simp only [ct, cq, List.length_cons, List.length_nil, if_true, show List.range 4 = [0, 1, 2, 3] from rfl]
  simp [h1, vLits]
def entLits (r : EntQ) : List Lit := .string r.1.data.toList :: (vLits (vG r.2.1) ++ vLits (vG r.2.2))
theorem keyLits_ent {P : Program} {t s v q : TypeId} {fs : Array Field} (ht : P.underlying t = some (.struct fs)) (hfs : fs.toList.map (fun f => (f.type, f.offset)) = [(s, 0), (v, 1), (v, 5)]) (hbl : fs.all (·.name != "_") = true)
    (ct : P.cellsOf t = 9) (cs : P.cellsOf s = 1) (hs : P.underlying s = some .string)
    (hv : P.underlying v = some (.array 4 q)) (hq : P.underlying q = some (.int .u64)) (cv : P.cellsOf v = 4) (cq : P.cellsOf q = 1) {r : EntQ} (hr : r.1.size ≤ maxLen ∧ OkV r.2.1 ∧ OkV r.2.2) (D : Nat) :
    P.keyLits (D + 3) t (entOne r) = some (entLits r) := by
  have h1 : P.keyLits (D + 2) s [.string r.1] = some [.string r.1.data.toList] := by
    unfold Program.keyLits
    rw [hs]
    simp only [hr.1, if_true]
  have h2 := keyLits_vec hv hq cv cq (A := vG r.2.1) (fun k => hr.2.1.u64 k) D
  have h3 := keyLits_vec hv hq cv cq (A := vG r.2.2) (fun k => hr.2.2.u64 k) D
  have hm : ∀ (l : List Field) (g : TypeId × Nat → Option (List Lit)), l.mapM (fun f => g (f.type, f.offset)) = (l.map fun f => (f.type, f.offset)).mapM g := fun l g => by rw [List.mapM_map]; rfl
  unfold Program.keyLits
  rw [ht]
  simp only [ct, hbl, show (entOne r).length = 9 from rfl, and_self, if_true]
  rw [hm fs.toList (fun x => P.keyLits (D + 2) x.1 (((entOne r).drop x.2).take (P.cellsOf x.1))), hfs]
  simp only [List.mapM_cons, List.mapM_nil, cs, cv]
  rw [show ((entOne r).drop 0).take 1 = [.string r.1] from rfl, h1]
  rw [show ((entOne r).drop 1).take 4 = [.int .u64 (vG r.2.1 0 : Nat), .int .u64 (vG r.2.1 1 : Nat), .int .u64 (vG r.2.1 2 : Nat), .int .u64 (vG r.2.1 3 : Nat)] from rfl, h2]
  rw [show ((entOne r).drop 5).take 4 = [.int .u64 (vG r.2.2 0 : Nat), .int .u64 (vG r.2.2 1 : Nat), .int .u64 (vG r.2.2 2 : Nat), .int .u64 (vG r.2.2 3 : Nat)] from rfl, h3]
  rfl
theorem vLits_inj {A B : Nat → Nat} : vLits A = vLits B ↔ A 0 = B 0 ∧ A 1 = B 1 ∧ A 2 = B 2 ∧ A 3 = B 3 := by
  simp only [vLits, List.cons.injEq, Lit.int.injEq, and_true, true_and]; omega
theorem entLits_inj {a b : EntQ} (ha : OkV a.2.1 ∧ OkV a.2.2) (hb : OkV b.2.1 ∧ OkV b.2.2) : entLits a = entLits b ↔ a = b := by
  obtain ⟨s, l, u⟩ := a
  obtain ⟨s', l', u'⟩ := b
  constructor
  · intro h
    unfold entLits at h
    injection h with h1 h2
    injection h1 with h1
    obtain ⟨h2, h3⟩ := List.append_inj h2 rfl
    have e1 := (vc_eq ha.1 hb.1).2 (vLits_inj.1 h2)
    have e2 := (vc_eq ha.2 hb.2).2 (vLits_inj.1 h3)
    have e0 : s = s' := mk_bytes h1
    simp only at e1 e2
    rw [e0, e1, e2]
  · intro h; rw [h]
/-- `==`, `!=` of two entries. -/
theorem run_eql_ents {P : Program} {t s v q : TypeId} {fs : Array Field} (ht : P.underlying t = some (.struct fs)) (hfs : fs.toList.map (fun f => (f.type, f.offset)) = [(s, 0), (v, 1), (v, 5)]) (hbl : fs.all (·.name != "_") = true)
    (ct : P.cellsOf t = 9) (cs : P.cellsOf s = 1) (hs : P.underlying s = some .string)
    (hv : P.underlying v = some (.array 4 q)) (hq : P.underlying q = some (.int .u64)) (cv : P.cellsOf v = 4) (cq : P.cellsOf q = 1) (hk : P.keyTypeAt 9 t = true) {a b : EntQ} (ha : a.1.size ≤ maxLen ∧ OkV a.2.1 ∧ OkV a.2.2) (hb : b.1.size ≤ maxLen ∧ OkV b.2.1 ∧ OkV b.2.2) (w : World) :
    (Op.equalIn 10000 t (entVal a) (entVal b)).run P w = .ok (decide (a = b)) w := by
  have k1 := keyLits_ent ht hfs hbl ct cs hs hv hq cv cq ha 0
  have k2 := keyLits_ent ht hfs hbl ct cs hs hv hq cv cq hb 0
  have hfo : ∀ r : EntQ, (entVal r).formed P t = true := fun r => by
    unfold entVal Value.formed
    rw [ht, ct]; rfl
  obtain ⟨r, h1, h2⟩ := run_equalIn_deep (P := P) 9991 9 t hk w 3 3 (entVal a) (entVal b) _ _ (hfo a) (hfo b) k1 k2
  rw [entLits_inj ha.2 hb.2] at h2
  rw [h1]
  congr 1
  rw [Bool.eq_iff_iff, h2, decide_eq_true_eq]
theorem run_eql_entQ {P : Program} {t : TypeId} {a b : EntQ} {d : Bool} {w : World} (h : (Op.equalIn 10000 t (entVal a) (entVal b)).run P w = .ok d w) : (binOp .eql t (entVal a) (entVal b)).run P w = .ok (.bool d) w := by
  unfold entVal at h ⊢
  rw [run_eql_struct, h]; rfl
theorem run_neq_entQ {P : Program} {t : TypeId} {a b : EntQ} {d : Bool} {w : World} (h : (Op.equalIn 10000 t (entVal a) (entVal b)).run P w = .ok d w) : (binOp .neq t (entVal a) (entVal b)).run P w = .ok (.bool (!d)) w := by
  unfold entVal at h ⊢
  rw [run_neq_struct, h]; rfl
end Go.Dm
namespace Go.Proofs.YtopnllbfhhjobaaDoor
open Go.RowKit Go.Dm
theorem eqEnt {a b : EntQ} (ha : a.1.size ≤ maxLen ∧ OkV a.2.1 ∧ OkV a.2.2) (hb : b.1.size ≤ maxLen ∧ OkV b.2.1 ∧ OkV b.2.2) (w : World) : (Op.equalIn 10000 44 (entVal a) (entVal b)).run Tryd.prog w = .ok (decide (a = b)) w :=
  run_eql_ents Tryd.underlying44 (by kernel_rfl) (by kernel_rfl) (by kernel_rfl) (by kernel_rfl) Tryd.underlying9 Tryd.underlying36 Tryd.underlying34 (by kernel_rfl) (by kernel_rfl) (by kernel_rfl) ha hb w
end Go.Proofs.YtopnllbfhhjobaaDoor

namespace Go.Dm
open Go Go.RowKit
/-- What is put of the first k. -/
def putN (R : List EntQ) (k : Nat) : Bs := putL R.length ++ (R.take k).flatMap putE
theorem putN_step {R : List EntQ} {k : Nat} (hk : k < R.length) : putN R (k + 1) = putN R k ++ putE (eAt R k) := by
  unfold putN
  rw [List.take_add_one, List.getElem?_eq_getElem hk, ← eAt_eq hk]
  simp [List.append_assoc]
theorem putN_len (R : List EntQ) (k : Nat) : (putN R k).length ≤ (putQ R).length := by
  unfold putN putQ
  conv => rhs; rw [← List.take_append_drop k R, List.flatMap_append]
  simp only [List.length_append, List.length_take, List.length_drop]
  have : min k R.length + (R.length - k) = R.length := by omega
  rw [this]
  omega
/-- The entry that stands at a place. -/
def entJ (l : Bs) (t : Bs × Int × Bool) : EntQ × Int × Bool :=
  if t.2.2 = false then (noEnt, 0, false)
  else if (getV l t.2.1).2.2 = false then (noEnt, 0, false)
  else ((⟨t.1.toArray⟩, (getV l t.2.1).1, (getV l (getV l t.2.1).2.1).1), (getV l (getV l t.2.1).2.1).2.1, (getV l (getV l t.2.1).2.1).2.2)
def entI (l : Bs) (p : Int) : EntQ × Int × Bool := entJ l (atI (getTextL 98) [] l p)
theorem EBox.far0 {b : Nat} {s : ByteArray} {L U : Nat → Nat} {w : World} (h : EBox b s L U w) (s2 : ByteArray) : EBox b s2 L U (w.setCell ⟨b, 0, none⟩ (.string s2)) := by
  refine ⟨by rw [World.size_setCell]; exact h.lt, cell_same h.c0, ?_, ?_, ?_, ?_, ?_, ?_, ?_, ?_, ?_, ?_, ?_, ?_, ?_, ?_, ?_, ?_, ?_⟩
  · rw [cell_other (by omega)]; exact h.c1
  · rw [cell_other (by omega)]; exact h.c2
  · rw [cell_other (by omega)]; exact h.c3
  · rw [cell_other (by omega)]; exact h.c4
  · rw [cell_other (by omega)]; exact h.c5
  · rw [cell_other (by omega)]; exact h.c6
  · rw [cell_other (by omega)]; exact h.c7
  · rw [cell_other (by omega)]; exact h.c8
  · rw [World.frozen?_setCell]; exact h.f0
  · rw [World.frozen?_setCell]; exact h.f1
  · rw [World.frozen?_setCell]; exact h.f2
  · rw [World.frozen?_setCell]; exact h.f3
  · rw [World.frozen?_setCell]; exact h.f4
  · rw [World.frozen?_setCell]; exact h.f5
  · rw [World.frozen?_setCell]; exact h.f6
  · rw [World.frozen?_setCell]; exact h.f7
  · rw [World.frozen?_setCell]; exact h.f8
theorem EBox.setL {b : Nat} {s : ByteArray} {L U : Nat → Nat} {w : World} (h : EBox b s L U w) (V : Nat → Nat) : EBox b s V U ((((w.setCell ⟨b, 1, none⟩ (.int .u64 (V 0 : Nat))).setCell ⟨b, 2, none⟩ (.int .u64 (V 1 : Nat))).setCell ⟨b, 3, none⟩ (.int .u64 (V 2 : Nat))).setCell ⟨b, 4, none⟩ (.int .u64 (V 3 : Nat))) := by
  refine ⟨by simp only [World.size_setCell]; exact h.lt, ?_, ?_, ?_, ?_, ?_, ?_, ?_, ?_, ?_, ?_, ?_, ?_, ?_, ?_, ?_, ?_, ?_, ?_⟩
  · rw [cell_other (show 4 ≠ 0 by omega), cell_other (show 3 ≠ 0 by omega), cell_other (show 2 ≠ 0 by omega), cell_other (show 1 ≠ 0 by omega)]; exact h.c0
  · rw [cell_other (show 4 ≠ 1 by omega), cell_other (show 3 ≠ 1 by omega), cell_other (show 2 ≠ 1 by omega)]; refine cell_same (x := (.int .u64 ((L 0 : Nat) : Int))) ?_; exact h.c1
  · rw [cell_other (show 4 ≠ 2 by omega), cell_other (show 3 ≠ 2 by omega)]; refine cell_same (x := (.int .u64 ((L 1 : Nat) : Int))) ?_; rw [cell_other (show 1 ≠ 2 by omega)]; exact h.c2
  · rw [cell_other (show 4 ≠ 3 by omega)]; refine cell_same (x := (.int .u64 ((L 2 : Nat) : Int))) ?_; rw [cell_other (show 2 ≠ 3 by omega), cell_other (show 1 ≠ 3 by omega)]; exact h.c3
  · refine cell_same (x := (.int .u64 ((L 3 : Nat) : Int))) ?_; rw [cell_other (show 3 ≠ 4 by omega), cell_other (show 2 ≠ 4 by omega), cell_other (show 1 ≠ 4 by omega)]; exact h.c4
  · rw [cell_other (show 4 ≠ 5 by omega), cell_other (show 3 ≠ 5 by omega), cell_other (show 2 ≠ 5 by omega), cell_other (show 1 ≠ 5 by omega)]; exact h.c5
  · rw [cell_other (show 4 ≠ 6 by omega), cell_other (show 3 ≠ 6 by omega), cell_other (show 2 ≠ 6 by omega), cell_other (show 1 ≠ 6 by omega)]; exact h.c6
  · rw [cell_other (show 4 ≠ 7 by omega), cell_other (show 3 ≠ 7 by omega), cell_other (show 2 ≠ 7 by omega), cell_other (show 1 ≠ 7 by omega)]; exact h.c7
  · rw [cell_other (show 4 ≠ 8 by omega), cell_other (show 3 ≠ 8 by omega), cell_other (show 2 ≠ 8 by omega), cell_other (show 1 ≠ 8 by omega)]; exact h.c8
  · simp only [World.frozen?_setCell]; exact h.f0
  · simp only [World.frozen?_setCell]; exact h.f1
  · simp only [World.frozen?_setCell]; exact h.f2
  · simp only [World.frozen?_setCell]; exact h.f3
  · simp only [World.frozen?_setCell]; exact h.f4
  · simp only [World.frozen?_setCell]; exact h.f5
  · simp only [World.frozen?_setCell]; exact h.f6
  · simp only [World.frozen?_setCell]; exact h.f7
  · simp only [World.frozen?_setCell]; exact h.f8
theorem EBox.setU {b : Nat} {s : ByteArray} {L U : Nat → Nat} {w : World} (h : EBox b s L U w) (V : Nat → Nat) : EBox b s L V ((((w.setCell ⟨b, 5, none⟩ (.int .u64 (V 0 : Nat))).setCell ⟨b, 6, none⟩ (.int .u64 (V 1 : Nat))).setCell ⟨b, 7, none⟩ (.int .u64 (V 2 : Nat))).setCell ⟨b, 8, none⟩ (.int .u64 (V 3 : Nat))) := by
  refine ⟨by simp only [World.size_setCell]; exact h.lt, ?_, ?_, ?_, ?_, ?_, ?_, ?_, ?_, ?_, ?_, ?_, ?_, ?_, ?_, ?_, ?_, ?_, ?_⟩
  · rw [cell_other (show 8 ≠ 0 by omega), cell_other (show 7 ≠ 0 by omega), cell_other (show 6 ≠ 0 by omega), cell_other (show 5 ≠ 0 by omega)]; exact h.c0
  · rw [cell_other (show 8 ≠ 1 by omega), cell_other (show 7 ≠ 1 by omega), cell_other (show 6 ≠ 1 by omega), cell_other (show 5 ≠ 1 by omega)]; exact h.c1
  · rw [cell_other (show 8 ≠ 2 by omega), cell_other (show 7 ≠ 2 by omega), cell_other (show 6 ≠ 2 by omega), cell_other (show 5 ≠ 2 by omega)]; exact h.c2
  · rw [cell_other (show 8 ≠ 3 by omega), cell_other (show 7 ≠ 3 by omega), cell_other (show 6 ≠ 3 by omega), cell_other (show 5 ≠ 3 by omega)]; exact h.c3
  · rw [cell_other (show 8 ≠ 4 by omega), cell_other (show 7 ≠ 4 by omega), cell_other (show 6 ≠ 4 by omega), cell_other (show 5 ≠ 4 by omega)]; exact h.c4
  · rw [cell_other (show 8 ≠ 5 by omega), cell_other (show 7 ≠ 5 by omega), cell_other (show 6 ≠ 5 by omega)]; refine cell_same (x := (.int .u64 ((U 0 : Nat) : Int))) ?_; exact h.c5
  · rw [cell_other (show 8 ≠ 6 by omega), cell_other (show 7 ≠ 6 by omega)]; refine cell_same (x := (.int .u64 ((U 1 : Nat) : Int))) ?_; rw [cell_other (show 5 ≠ 6 by omega)]; exact h.c6
  · rw [cell_other (show 8 ≠ 7 by omega)]; refine cell_same (x := (.int .u64 ((U 2 : Nat) : Int))) ?_; rw [cell_other (show 6 ≠ 7 by omega), cell_other (show 5 ≠ 7 by omega)]; exact h.c7
  · refine cell_same (x := (.int .u64 ((U 3 : Nat) : Int))) ?_; rw [cell_other (show 7 ≠ 8 by omega), cell_other (show 6 ≠ 8 by omega), cell_other (show 5 ≠ 8 by omega)]; exact h.c8
  · simp only [World.frozen?_setCell]; exact h.f0
  · simp only [World.frozen?_setCell]; exact h.f1
  · simp only [World.frozen?_setCell]; exact h.f2
  · simp only [World.frozen?_setCell]; exact h.f3
  · simp only [World.frozen?_setCell]; exact h.f4
  · simp only [World.frozen?_setCell]; exact h.f5
  · simp only [World.frozen?_setCell]; exact h.f6
  · simp only [World.frozen?_setCell]; exact h.f7
  · simp only [World.frozen?_setCell]; exact h.f8
end Go.Dm
namespace Go.Proofs.YtopnllbfhhjobaaDoor
open Go.RowKit Go.Dm
set_option maxHeartbeats 4000000 in
set_option maxRecDepth 100000 in
theorem qput_w (R : List EntQ) (v : Value) (w : World) (hm : R.length ≤ 1099511627776) (hR : FitT R) (hsz : (putQ R).length ≤ 1099511627776) (hx : Tree w v R) :
    Calls Tryd.prog 23 #[v] w fun r w' => r = .returned (.string ⟨(putQ R).toArray⟩) ∧ Ext w w' := by
  obtain ⟨q, cap, rfl, _, _⟩ := hx.shape
  have hn10 := putL_ten (u := R.length) (show R.length < _ by omega)
  have C0 := fun U => put_w R.length U (show R.length < _ by omega)
  have CT := fun (x : ByteArray) (h : x.size ≤ 1048576) U => puttext_w x U (by omega)
  have CV := fun (x : Vc) (h : OkV x) U => vput_w x h U
  have hpl := fun k => putN_len R k
  have hst := fun k (hk : k < R.length) => putN_step (R := R) hk
  have h0 : putN R 0 = putL R.length := by simp [putN]
  have hfin : putN R R.length = putQ R := by unfold putN putQ; rw [List.take_length]
  generalize putQ R = pq at *
  generalize putN R = pn at *
  unfold vVal vF at CV
  replace C0 := Lib.hid C0
  replace CT := Lib.hid CT
  replace CV := Lib.hid CV
  replace hpl := Lib.hid hpl
  replace hst := Lib.hid hst
  replace h0 := Lib.hid h0
  replace hfin := Lib.hid hfin
  go_enter Tryd.func23, Tryd.ntmps23
  have hcv : ((R.length : Int)) % 18446744073709551616 = (R.length : Int) := by omega
  have h0d : Hid ((⟨(putL R.length).toArray⟩ : ByteArray).data.toList = pn 0) := by show _ = _; rw [h0.out]
  have h0s : (⟨(putL R.length).toArray⟩ : ByteArray).size ≤ pq.length := by
    have := hpl.out 0
    rw [h0.out] at this
    show (putL R.length).toArray.size ≤ _
    rw [List.size_toArray]; exact this
  generalize (⟨(putL R.length).toArray⟩ : ByteArray) = b0 at *
  go_wp2_with fail
  refine (C0.out _).mono ?_; rintro e w1 ⟨rfl, h1⟩
  go_wp2
  go_loopw [3, 5, 12] (fun s _ i wr => ∃ (k : Nat) (b : ByteArray), k ≤ R.length ∧ i = .int .i64 k ∧ s = .string b ∧ b.size ≤ pq.length ∧ Ext w wr ∧ Hid (b.data.toList = pn k)) (fun _ _ i _ => R.length - (intOf i).toNat)
  case atStart => exact ⟨0, b0, by omega, rfl, rfl, h0s, h1, h0d⟩
  case round =>
    obtain ⟨k, b, hk, rfl, rfl, hbs, hb, HB⟩ := hrel
    by_cases hlt : k < R.length
    · obtain ⟨tb, toff, rfl, hbl, hcs⟩ := (hx.ext hb).at hlt
      have hxf := hR.at hlt
      have hS1 := hst.out k hlt
      obtain ⟨⟨xs, xl, xu⟩, hr⟩ : ∃ r, eAt R k = r := ⟨_, rfl⟩
      rw [hr] at hcs hxf hS1
      clear hr
      simp only at hxf
      obtain ⟨hxs, hxl, hxu⟩ := hxf
      have CT1 := fun U => CT.out xs hxs U
      have CV1 := fun U => CV.out xl hxl U
      have CV2 := fun U => CV.out xu hxu U
      have hl1 := hpl.out (k + 1)
      rw [hS1] at hl1
      have hs2 : (b ++ ((⟨(putT xs.data.toList).toArray⟩ ++ ⟨(putV xl).toArray⟩) ++ ⟨(putV xu).toArray⟩) : ByteArray).size ≤ pq.length := by
        rw [ByteArray.size_append, ByteArray.size_append, ByteArray.size_append]
        show b.data.toList.length + ((putT xs.data.toList).toArray.size + (putV xl).toArray.size + (putV xu).toArray.size) ≤ _
        rw [HB.out]
        simp only [putE, List.length_append, List.size_toArray] at hl1 ⊢
        omega
      have hd2 : Hid ((b ++ ((⟨(putT xs.data.toList).toArray⟩ ++ ⟨(putV xl).toArray⟩) ++ ⟨(putV xu).toArray⟩) : ByteArray).data.toList = pn (k + 1)) := by
        show _ = _
        rw [data_append, data_append, data_append, HB.out, hS1]
        rfl
      have hsT : (⟨(putT xs.data.toList).toArray⟩ : ByteArray).size ≤ 1048586 := by
        show (putT xs.data.toList).toArray.size ≤ _
        rw [List.size_toArray]
        have := putL_ten (u := xs.data.toList.length) (show xs.size < _ by omega)
        have h3 : xs.data.toList.length = xs.size := rfl
        unfold putT
        rw [List.length_append]
        omega
      have hsV : ∀ {x : Vc}, OkV x → (⟨(putV x).toArray⟩ : ByteArray).size ≤ 40 := fun {x} hx => by
        show (putV x).toArray.size ≤ _
        rw [List.size_toArray, ← putVF_four]
        exact putVF_len hx 4
      have hsL := hsV hxl
      have hsU := hsV hxu
      clear hl1 hS1 hsV
      generalize (⟨(putT xs.data.toList).toArray⟩ : ByteArray) = pT at *
      generalize (⟨(putV xl).toArray⟩ : ByteArray) = pL at *
      generalize (⟨(putV xu).toArray⟩ : ByteArray) = pU at *
      have hEb := EBox.new wr xs (vG xl) (vG xu) 44
      have hEn := (Ext.refl wr).alloc (.cells #[.string xs, .int .u64 (vG xl 0 : Nat), .int .u64 (vG xl 1 : Nat), .int .u64 (vG xl 2 : Nat), .int .u64 (vG xl 3 : Nat), .int .u64 (vG xu 0 : Nat), .int .u64 (vG xu 1 : Nat), .int .u64 (vG xu 2 : Nat), .int .u64 (vG xu 3 : Nat)] 44)
      have hbX := hb.trans hEn
      obtain ⟨X, hX⟩ : ∃ X, X = wr.alloc (.cells #[.string xs, .int .u64 (vG xl 0 : Nat), .int .u64 (vG xl 1 : Nat), .int .u64 (vG xl 2 : Nat), .int .u64 (vG xl 3 : Nat), .int .u64 (vG xu 0 : Nat), .int .u64 (vG xu 1 : Nat), .int .u64 (vG xu 2 : Nat), .int .u64 (vG xu 3 : Nat)] 44) := ⟨_, rfl⟩
      rw [← hX] at hEb hbX
      have hXl : wr.heap.size < X.heap.size := hEb.lt
      replace CT1 := Lib.hid CT1
      replace CV1 := Lib.hid CV1
      replace CV2 := Lib.hid CV2
      clear hEn
      have c0 := hcs 0 (by omega)
      have c1 := hcs 1 (by omega)
      have c2 := hcs 2 (by omega)
      have c3 := hcs 3 (by omega)
      have c4 := hcs 4 (by omega)
      have c5 := hcs 5 (by omega)
      have c6 := hcs 6 (by omega)
      have c7 := hcs 7 (by omega)
      have c8 := hcs 8 (by omega)
      simp only [entOne, uAt, List.getElem?_cons_zero, List.getElem?_cons_succ, Nat.add_zero] at c0 c1 c2 c3 c4 c5 c6 c7 c8
      clear hcs
      go_wp2_with fail
      rw [← hX]
      clear c0 c1 c2 c3 c4 c5 c6 c7 c8 hX
      obtain ⟨_, e0, e1, e2, e3, e4, e5, e6, e7, e8, _, _, _, _, _, _, _, _, _⟩ := id hEb
      refine Dm.wp_region_grow (by kernel_rfl) (by kernel_rfl) ?_
      repeat (go_big_quiet_step (first
        | (go_at_call 45; with_reducible exact Calls.quietE (CT1.out _))
        | (go_at_call 46; with_reducible exact Calls.quietE (CV1.out _))
        | (go_at_call 46; with_reducible exact Calls.quietE (CV2.out _))))
      refine wpQuiet_nil ?_
      intro w2 h2
      go_wp2
      go_roundw
      case rel => exact ⟨k + 1, _, by omega, by go_num, rfl, hs2, hbX.trans h2, hd2⟩
      case measure => simp [intOf]; omega
    · obtain rfl : k = R.length := by omega
      have hbe : Hid (b = ⟨pq.toArray⟩) := mk_bytes (by rw [HB.out, hfin.out])
      go_wp2
      go_ret
      exact ⟨by rw [← hbe.out]; rfl, hb⟩
set_option maxHeartbeats 8000000 in
set_option maxRecDepth 100000 in
theorem qentry_w (s : ByteArray) (i : Int) (w : World) (hs : s.size ≤ 281474976710656) :
    Calls Tryd.prog 48 #[.string s, .int .i64 i] w fun e w' => e = .returned (.tuple #[entVal (entI s.data.toList i).1, .int .i64 (entI s.data.toList i).2.1, .bool (entI s.data.toList i).2.2]) ∧ Ext w w' := by
  have CT := fun U => wgettext_w s i 98 U hs (by omega)
  have CV := fun (j : Int) U => vget_w s j U hs
  have hst : entI s.data.toList i = entJ s.data.toList (atI (getTextL 98) [] s.data.toList i) := rfl
  generalize entI s.data.toList i = E at *
  unfold entJ at hst
  generalize atI (getTextL 98) [] s.data.toList i = t at *
  generalize getV s.data.toList = gv at *
  obtain ⟨x, n, o⟩ := t
  unfold vVal vF at CV
  simp only at CT hst
  have hE : Ext w (w.alloc (.cells #[.string ⟨#[]⟩, .int .u64 0, .int .u64 0, .int .u64 0, .int .u64 0, .int .u64 0, .int .u64 0, .int .u64 0, .int .u64 0] 44)) := (Ext.refl _).alloc _
  have hB : EBox w.heap.size ⟨#[]⟩ (fun _ => 0) (fun _ => 0) (w.alloc (.cells #[.string ⟨#[]⟩, .int .u64 0, .int .u64 0, .int .u64 0, .int .u64 0, .int .u64 0, .int .u64 0, .int .u64 0, .int .u64 0] 44)) := EBox.new w _ _ _ _
  replace CT := Lib.hid CT
  replace CV := Lib.hid CV
  replace hst := Lib.hid hst
  go_enter Tryd.func48, Tryd.ntmps48
  go_wp2_with fail
  refine (CT.out _).mono ?_; rintro e w1 ⟨rfl, h1⟩
  replace hB := hB.ext h1
  replace hE := hE.trans h1
  clear h1
  generalize (⟨x.toArray⟩ : ByteArray) = xb at *
  obtain ⟨_, z0, z1, z2, z3, z4, z5, z6, z7, z8, f0, f1, f2, f3, f4, f5, f6, f7, f8⟩ := id hB
  change World.cell? _ _ = some (.int .u64 0) at  z1 z2 z3 z4 z5 z6 z7 z8
  cases o with
  | false =>
    have hE1 : E = (noEnt, 0, false) := hst.out
    go_wp2
    have hP := ((hB.far0 xb).put ⟨#[]⟩ (fun _ => 0) (fun _ => 0))
    unfold put9 at hP
    obtain ⟨_, k0, k1, k2, k3, k4, k5, k6, k7, k8, _, _, _, _, _, _, _, _, _⟩ := hP
    simp only [Int.cast_ofNat_Int] at k0 k1 k2 k3 k4 k5 k6 k7 k8
    refine bodyPost_ret (v := .tuple #[.agg #[.string ⟨#[]⟩, .int .u64 0, .int .u64 0, .int .u64 0, .int .u64 0, .int .u64 0, .int .u64 0, .int .u64 0, .int .u64 0], .int .i64 0, .bool false]) (by simp [results, Tryd.results48, go_sem, k0, k1, k2, k3, k4, k5, k6, k7, k8]) rfl ?_
    exact ⟨by rw [hE1]; rfl, Ext.put9 (hE.setCell (p := ⟨w.heap.size, 0, none⟩) (Nat.le_refl _) _) (b := w.heap.size) (Nat.le_refl _) ⟨#[]⟩ (fun _ => 0) (fun _ => 0)⟩
  | true =>
    have hst2 := hst.out
    rw [if_neg (by simp)] at hst2
    have CV1 := fun U => CV.out n U
    obtain ⟨⟨l, m, o2⟩, hg⟩ : ∃ g, gv n = g := ⟨_, rfl⟩
    rw [hg] at hst2 CV1
    clear hst hg
    simp only at hst2 CV1
    obtain ⟨L, hL⟩ : ∃ L : Nat → Nat, ∀ k, vG l k = L k := ⟨_, fun _ => rfl⟩
    simp only [hL] at CV1
    replace hL := Lib.hid hL
    replace hst := Lib.hid hst2
    clear hst2
    replace CV1 := Lib.hid CV1
    go_wp2_with fail
    refine (CV1.out _).mono ?_; rintro e w2 ⟨rfl, h2⟩
    replace hE := Ext.trans (hE.setCell (p := ⟨w.heap.size, 0, none⟩) (Nat.le_refl _) (.string xb)) h2
    replace hB := (hB.far0 xb).ext h2
    clear h2 z0 z1 z2 z3 z4 z5 z6 z7 z8 f0 f1 f2 f3 f4 f5 f6 f7 f8
    obtain ⟨_, z0, z1, z2, z3, z4, z5, z6, z7, z8, f0, f1, f2, f3, f4, f5, f6, f7, f8⟩ := id hB
    change World.cell? _ _ = some (.int .u64 0) at  z1 z2 z3 z4 z5 z6 z7 z8
    have hBL := hB.setL L
    have hEL := (((hE.setCell (p := ⟨w.heap.size, 1, none⟩) (Nat.le_refl _) (.int .u64 (L 0 : Nat))).setCell (p := ⟨w.heap.size, 2, none⟩) (Nat.le_refl _) (.int .u64 (L 1 : Nat))).setCell (p := ⟨w.heap.size, 3, none⟩) (Nat.le_refl _) (.int .u64 (L 2 : Nat))).setCell (p := ⟨w.heap.size, 4, none⟩) (Nat.le_refl _) (.int .u64 (L 3 : Nat))
    cases o2 with
    | false =>
      have hE1 : E = (noEnt, 0, false) := hst.out
      go_wp2
      have hP := hBL.put ⟨#[]⟩ (fun _ => 0) (fun _ => 0)
      unfold put9 at hP
      obtain ⟨_, k0, k1, k2, k3, k4, k5, k6, k7, k8, _, _, _, _, _, _, _, _, _⟩ := hP
      simp only [Int.cast_ofNat_Int] at k0 k1 k2 k3 k4 k5 k6 k7 k8
      refine bodyPost_ret (v := .tuple #[.agg #[.string ⟨#[]⟩, .int .u64 0, .int .u64 0, .int .u64 0, .int .u64 0, .int .u64 0, .int .u64 0, .int .u64 0, .int .u64 0], .int .i64 0, .bool false]) (by simp [results, Tryd.results48, go_sem, k0, k1, k2, k3, k4, k5, k6, k7, k8]) rfl ?_
      exact ⟨by rw [hE1]; rfl, Ext.put9 hEL (b := w.heap.size) (Nat.le_refl _) ⟨#[]⟩ (fun _ => 0) (fun _ => 0)⟩
    | true =>
      have hst2 := hst.out
      rw [if_neg (by simp)] at hst2
      have CV2 := fun U => CV.out m U
      obtain ⟨⟨u, m2, o3⟩, hg⟩ : ∃ g, gv m = g := ⟨_, rfl⟩
      rw [hg] at hst2 CV2
      clear hst hg
      simp only at hst2 CV2
      obtain ⟨U, hU⟩ : ∃ U : Nat → Nat, ∀ k, vG u k = U k := ⟨_, fun _ => rfl⟩
      simp only [hU] at CV2
      replace hU := Lib.hid hU
      replace hst := Lib.hid hst2
      clear hst2
      replace CV2 := Lib.hid CV2
      go_wp2_with fail
      refine (CV2.out _).mono ?_; rintro e w3 ⟨rfl, h3⟩
      replace hE := Ext.trans hEL h3
      replace hB := hBL.ext h3
      clear h3 z0 z1 z2 z3 z4 z5 z6 z7 z8 f0 f1 f2 f3 f4 f5 f6 f7 f8 hBL hEL
      obtain ⟨_, z0, z1, z2, z3, z4, z5, z6, z7, z8, f0, f1, f2, f3, f4, f5, f6, f7, f8⟩ := id hB
      change World.cell? _ _ = some (.int .u64 0) at  z5 z6 z7 z8
      have hBU := hB.setU U
      have hEU := (((hE.setCell (p := ⟨w.heap.size, 5, none⟩) (Nat.le_refl _) (.int .u64 (U 0 : Nat))).setCell (p := ⟨w.heap.size, 6, none⟩) (Nat.le_refl _) (.int .u64 (U 1 : Nat))).setCell (p := ⟨w.heap.size, 7, none⟩) (Nat.le_refl _) (.int .u64 (U 2 : Nat))).setCell (p := ⟨w.heap.size, 8, none⟩) (Nat.le_refl _) (.int .u64 (U 3 : Nat))
      have hP := hBU.put xb L U
      unfold put9 at hP
      obtain ⟨_, k0, k1, k2, k3, k4, k5, k6, k7, k8, _, _, _, _, _, _, _, _, _⟩ := hP
      obtain ⟨_, y0, y1, y2, y3, y4, y5, y6, y7, y8, _, _, _, _, _, _, _, _, _⟩ := id hBU
      go_wp2
      refine bodyPost_ret (v := .tuple #[.agg #[.string xb, .int .u64 (L 0 : Nat), .int .u64 (L 1 : Nat), .int .u64 (L 2 : Nat), .int .u64 (L 3 : Nat), .int .u64 (U 0 : Nat), .int .u64 (U 1 : Nat), .int .u64 (U 2 : Nat), .int .u64 (U 3 : Nat)], .int .i64 m2, .bool o3]) (by simp [results, Tryd.results48, go_sem, k0, k1, k2, k3, k4, k5, k6, k7, k8]) rfl ?_
      exact ⟨by rw [hst.out]; exact congrArg _ (congrArg _ (by unfold entVal uAt; simp only [hL.out, hU.out])), Ext.put9 hEU (b := w.heap.size) (Nat.le_refl _) xb L U⟩
end Go.Proofs.YtopnllbfhhjobaaDoor

namespace Go.Dm
open Go Go.RowKit
theorem getI_u64q (l : Bs) (p : Int) : U64 (getI l p).1 := by
  unfold getI
  split
  · show (0 : Nat) < _; omega
  · cases h : getL (l.drop p.toNat) with
    | none => show (0 : Nat) < _; omega
    | some x => exact (getL_len h).2.2.2
theorem getVF_okVq {l : Bs} {p : Int} : ∀ {k ns q}, getVF l p k = some (ns, q) → ∀ x ∈ ns, U64 x
  | 0, ns, q, h => by simp [getVF] at h; rw [h.1]; simp
  | k + 1, ns, q, h => by
    unfold getVF at h
    cases e : getVF l p k with
    | none => rw [e] at h; simp at h
    | some x =>
      obtain ⟨ms, r⟩ := x
      rw [e] at h
      simp only at h
      split at h
      · simp at h
        rw [← h.1]
        intro x hx
        rcases List.mem_append.1 hx with hx | hx
        · exact getVF_okVq e x hx
        · rw [List.mem_singleton.1 hx]; exact getI_u64q _ _
      · simp at h
theorem getV_okVq (l : Bs) (p : Int) : OkV (getV l p).1 := by
  unfold getV
  cases h : getVF l p 4 with
  | none => exact okV_no
  | some x =>
    obtain ⟨ns, q⟩ := x
    refine ⟨getVF_len h, fun k => ?_⟩
    show U64 (ns.getD k 0)
    rw [List.getD_eq_getElem?_getD]
    cases e : ns[k]? with
    | none => show (0 : Nat) < _; omega
    | some x => exact getVF_okVq h x (List.mem_of_getElem? e)
theorem getTextL_fitq {most : Nat} {l t : Bs} {n : Nat} (h : getTextL most l = some (t, n)) : t.length ≤ most := by
  cases hg : getL l with
  | none => rw [getTextL_none hg] at h; cases h
  | some x =>
    obtain ⟨u, m⟩ := x
    rw [getTextL_some hg] at h
    split at h
    · rename_i hu
      injection h with h
      injection h with h1 h2
      rw [← h1, List.length_take]; omega
    · cases h
theorem entI_fit (l : Bs) (p : Int) : (entI l p).1.1.size ≤ 98 ∧ OkV (entI l p).1.2.1 ∧ OkV (entI l p).1.2.2 := by
  have h1 : (atI (getTextL 98) [] l p).1.length ≤ 98 := by
    unfold atI
    split
    · simp
    · split
      · rename_i h; exact getTextL_fitq h
      · simp
  unfold entI entJ
  split
  · exact ⟨Nat.zero_le _, okV_no, okV_no⟩
  · split
    · exact ⟨Nat.zero_le _, okV_no, okV_no⟩
    · refine ⟨?_, getV_okVq _ _, getV_okVq _ _⟩
      show ((atI (getTextL 98) [] l p).1.toArray).size ≤ 98
      rw [List.size_toArray]; exact h1
/-- So many entries that stand one behind the other. -/
def getEs (l : Bs) : Nat → Int → List EntQ → Option (List EntQ × Int)
  | 0, q, R => some (R, q)
  | k + 1, q, R => if (entI l q).2.2 = false ∨ ((entI l q).1 = noEnt ∧ R ≠ []) then none else getEs l k (entI l q).2.1 (R ++ [(entI l q).1])
def getQJ (l : Bs) (g : Nat × Int × Bool) : List EntQ × Int × Bool :=
  if g.2.2 = false ∨ 16 < g.1 then ([], 0, false)
  else match getEs l g.1 g.2.1 [] with
    | none => ([], 0, false)
    | some (R, q) => if rightQ R = true then (R, q, true) else ([], 0, false)
/-- P10.5: the tree that stands at a place. -/
def getQ (l : Bs) (p : Int) : List EntQ × Int × Bool := getQJ l (getI l p)
theorem getEs_fit {l : Bs} : ∀ {k : Nat} {q : Int} {R : List EntQ} {x : List EntQ × Int}, FitT R → (∀ r ∈ R, r.1.size ≤ 98) → getEs l k q R = some x → (FitT x.1 ∧ ∀ r ∈ x.1, r.1.size ≤ 98) ∧ x.1.length = R.length + k
  | 0, q, R, x, h, h2, e => by
    injection e with e
    subst e
    exact ⟨⟨h, h2⟩, by simp⟩
  | k + 1, q, R, x, h, h2, e => by
    unfold getEs at e
    split at e
    · cases e
    · have hf := entI_fit l q
      have h3 : ∀ r ∈ R ++ [(entI l q).1], r.1.size ≤ 98 := fun r hr => by
        rcases List.mem_append.1 hr with hr | hr
        · exact h2 r hr
        · rw [List.mem_singleton.1 hr]; exact hf.1
      have := getEs_fit (R := R ++ [(entI l q).1]) ⟨fun r hr => by have := h3 r hr; omega, fun r hr => by
        rcases List.mem_append.1 hr with hr | hr
        · exact h.lim r hr
        · rw [List.mem_singleton.1 hr]; exact hf.2.1, fun r hr => by
        rcases List.mem_append.1 hr with hr | hr
        · exact h.used r hr
        · rw [List.mem_singleton.1 hr]; exact hf.2.2⟩ h3 e
      refine ⟨this.1, ?_⟩
      rw [this.2, List.length_append]
      simp; omega
theorem getQ_fit (l : Bs) (p : Int) : FitT (getQ l p).1 ∧ (getQ l p).1.length ≤ 16 ∧ ∀ r ∈ (getQ l p).1, r.1.size ≤ 98 := by
  unfold getQ getQJ
  split
  · exact ⟨FitT.nil, by simp, by simp⟩
  · rename_i hn
    split
    · exact ⟨FitT.nil, by simp, by simp⟩
    · rename_i R q h
      have := getEs_fit FitT.nil (by simp) h
      split
      · refine ⟨this.1.1, ?_, this.1.2⟩
        have h2 := this.2
        simp only [List.length_nil] at h2
        show R.length ≤ 16
        omega
      · exact ⟨FitT.nil, by simp, by simp⟩
end Go.Dm
namespace Go.Proofs.YtopnllbfhhjobaaDoor
open Go.RowKit Go.Dm
set_option maxHeartbeats 8000000 in
set_option maxRecDepth 100000 in
theorem qget_w (s : ByteArray) (i : Int) (w : World) (hs : s.size ≤ 281474976710656) (ht : Vars w) :
    Calls Tryd.prog 24 #[.string s, .int .i64 i] w fun e w' => ∃ v, e = .returned (.tuple #[v, .int .i64 (getQ s.data.toList i).2.1, .bool (getQ s.data.toList i).2.2]) ∧ Tree w' v (getQ s.data.toList i).1 ∧ Ext w w' := by
  have C0 := fun U => wget_w s i U hs
  have hu := getI_u64q s.data.toList i
  have CE := fun (j : Int) U => qentry_w s j U hs
  have hfit := fun (j : Int) => entI_fit s.data.toList j
  have hst : getQ s.data.toList i = getQJ s.data.toList (getI s.data.toList i) := rfl
  generalize getQ s.data.toList i = E at *
  unfold getQJ at hst
  have hs0 := fun q R => show getEs s.data.toList 0 q R = some (R, q) from rfl
  have hs1 := fun k q R => show getEs s.data.toList (k + 1) q R = if (entI s.data.toList q).2.2 = false ∨ ((entI s.data.toList q).1 = noEnt ∧ R ≠ []) then none else getEs s.data.toList k (entI s.data.toList q).2.1 (R ++ [(entI s.data.toList q).1]) from rfl
  generalize getEs s.data.toList = ge at *
  generalize entI s.data.toList = ei at *
  generalize getI s.data.toList i = g at *
  obtain ⟨N, q0, o⟩ := g
  simp only at C0 hst hu
  unfold entVal uAt at CE
  have CR := fun (R : List EntQ) (v : Value) U (h : Ext w U) (hR : FitT R) (hl : R.length ≤ 16) (hx : Tree U v R) => qright_w R v U (by omega) hR hx (ht.ext h)
  replace C0 := Lib.hid C0
  replace CE := Lib.hid CE
  replace CR := Lib.hid CR
  replace hst := Lib.hid hst
  replace hs0 := Lib.hid hs0
  replace hs1 := Lib.hid hs1
  replace hfit := Lib.hid hfit
  go_enter Tryd.func24, Tryd.ntmps24
  go_wp2_with fail
  refine (C0.out _).mono ?_; rintro e w1 ⟨rfl, h1⟩
  cases o with
  | false =>
    have hE := hst.out
    rw [if_pos (Or.inl rfl)] at hE
    clear hst
    go_wp2
    refine bodyPost_ret (results3 rfl _ _ _) rfl ?_
    exact ⟨_, by rw [hE]; rfl, by rw [hE]; exact Tree.nil _, h1⟩
  | true =>
  by_cases hN : 16 < N
  · have hE := hst.out
    rw [if_pos (Or.inr hN)] at hE
    clear hst
    have hNi : (16 : Int) < (N : Int) := by omega
    go_wp2
    refine bodyPost_ret (results3 rfl _ _ _) rfl ?_
    exact ⟨_, by rw [hE]; rfl, by rw [hE]; exact Tree.nil _, h1⟩
  have hst2 := hst.out
  rw [if_neg (fun h => h.elim (by simp) hN)] at hst2
  replace hst := Lib.hid hst2
  clear hst2
  have hNi : ¬ (16 : Int) < (N : Int) := by omega
  go_wp2
  go_loopw [1, 4, 8, 9, 10, 25] (fun a t _ _ _ i wr => ∃ (R : List EntQ) (q : Int), R.length ≤ N ∧ i = .int .u64 R.length ∧ a = .int .i64 q ∧ wr.ownsRow w.heap.size 44 9 t R.length (entCellsQ R) ∧ FitT R ∧ Ext w wr ∧ Hid (ge N q0 [] = ge (N - R.length) q R)) (fun _ _ _ _ _ i _ => N - (intOf i).toNat)
  case atStart => exact ⟨[], q0, by simp, rfl, rfl, World.ownsRow_nil _ _ _ _, FitT.nil, h1, rfl⟩
  case round =>
    obtain ⟨R, q, hk, rfl, rfl, ho, hR, hb, HG⟩ := hrel
    obtain ⟨p, cap, rfl, _, _⟩ := (Sl.of_owns ho).shape
    by_cases hlt : R.length < N
    · have C := fun U => CE.out q U
      have hS := hs1.out (N - (R.length + 1)) q R
      rw [show N - (R.length + 1) + 1 = N - R.length by omega] at hS
      have HG1 := HG.out
      rw [hS] at HG1
      clear hS HG
      have hf := hfit.out q
      obtain ⟨⟨⟨xs, xl, xu⟩, q2, ok⟩, hr⟩ : ∃ r, ei q = r := ⟨_, rfl⟩
      rw [hr] at C HG1 hf
      clear hr
      simp only at C HG1 hf
      obtain ⟨hxs, hxl, hxu⟩ := hf
      have hq := fun U => run_eql_entQ (eqEnt (a := (xs, xl, xu)) (b := noEnt) ⟨by show xs.size ≤ _; unfold maxLen; omega, hxl, hxu⟩ ⟨Nat.zero_le _, okV_no, okV_no⟩ U)
      have hq2 : ∀ U, (binOp .eql 44 (.agg #[.string xs, .int .u64 (vG xl 0 : Nat), .int .u64 (vG xl 1 : Nat), .int .u64 (vG xl 2 : Nat), .int .u64 (vG xl 3 : Nat), .int .u64 (vG xu 0 : Nat), .int .u64 (vG xu 1 : Nat), .int .u64 (vG xu 2 : Nat), .int .u64 (vG xu 3 : Nat)]) (.agg #[.string ⟨#[]⟩, .int .u64 0, .int .u64 0, .int .u64 0, .int .u64 0, .int .u64 0, .int .u64 0, .int .u64 0, .int .u64 0])).run Tryd.prog U = .ok (.bool (decide ((xs, xl, xu) = noEnt))) U := hq
      clear hq
      replace C := Lib.hid C
      have hcl : entOne (xs, xl, xu) = [.string xs, .int .u64 (vG xl 0 : Nat), .int .u64 (vG xl 1 : Nat), .int .u64 (vG xl 2 : Nat), .int .u64 (vG xl 3 : Nat), .int .u64 (vG xu 0 : Nat), .int .u64 (vG xu 1 : Nat), .int .u64 (vG xu 2 : Nat), .int .u64 (vG xu 3 : Nat)] := rfl
      have hfs : FitT (R ++ [(xs, xl, xu)]) := by
        refine ⟨fun r hr => ?_, fun r hr => ?_, fun r hr => ?_⟩ <;> rcases List.mem_append.1 hr with hr | hr
        · exact hR.path r hr
        · rw [List.mem_singleton.1 hr]; show xs.size ≤ _; omega
        · exact hR.lim r hr
        · rw [List.mem_singleton.1 hr]; exact hxl
        · exact hR.used r hr
        · rw [List.mem_singleton.1 hr]; exact hxu
      go_wp2_with fail
      refine (C.out _).mono ?_; rintro e w3 ⟨rfl, h3⟩
      have hEb := EBox.new w3 xs (vG xl) (vG xu) 44
      have hEn := (Ext.refl w3).alloc (.cells #[.string xs, .int .u64 (vG xl 0 : Nat), .int .u64 (vG xl 1 : Nat), .int .u64 (vG xl 2 : Nat), .int .u64 (vG xl 3 : Nat), .int .u64 (vG xu 0 : Nat), .int .u64 (vG xu 1 : Nat), .int .u64 (vG xu 2 : Nat), .int .u64 (vG xu 3 : Nat)] 44)
      have ho3 := Ext.row (Ext.row ho h3) hEn
      have hb3 := (hb.trans h3).trans hEn
      obtain ⟨_, e0, e1, e2, e3, e4, e5, e6, e7, e8, _, _, _, _, _, _, _, _, _⟩ := id hEb
      clear hEn
      cases ok with
      | false =>
        have hE := hst.out
        rw [HG1, if_pos (Or.inl rfl)] at hE
        simp only at hE
        clear hst HG1 hq2
        go_wp2
        refine bodyPost_ret (results3 rfl _ _ _) rfl ?_
        exact ⟨_, by rw [hE]; rfl, by rw [hE]; exact Tree.nil _, hb3⟩
      | true =>
      by_cases hz : (xs, xl, xu) = noEnt ∧ 0 < R.length
      · obtain ⟨hz1, hz2⟩ := hz
        have hE := hst.out
        rw [HG1, if_pos (Or.inr ⟨hz1, by rintro rfl; simp at hz2⟩)] at hE
        simp only at hE
        rw [decide_eq_true hz1] at hq2
        clear hst HG1 hz1
        have hRi : (0 : Int) < (R.length : Int) := by omega
        go_wp2
        refine bodyPost_ret (results3 rfl _ _ _) rfl ?_
        exact ⟨_, by rw [hE]; rfl, by rw [hE]; exact Tree.nil _, hb3⟩
      · have HG2 := HG1
        rw [if_neg (fun h => h.elim (by simp) (fun h => hz ⟨h.1, List.length_pos_iff.2 h.2⟩))] at HG2
        replace HG2 := Lib.hid HG2
        clear HG1
        have hone : ∀ u ∈ (#[.string xs, .int .u64 (vG xl 0 : Nat), .int .u64 (vG xl 1 : Nat), .int .u64 (vG xl 2 : Nat), .int .u64 (vG xl 3 : Nat), .int .u64 (vG xu 0 : Nat), .int .u64 (vG xu 1 : Nat), .int .u64 (vG xu 2 : Nat), .int .u64 (vG xu 3 : Nat)] : Array Value).toList, u.oneCell' = true := entOne_one (xs, xl, xu)
        have hsl := Sl.lit (w3.alloc (.cells #[.string xs, .int .u64 (vG xl 0 : Nat), .int .u64 (vG xl 1 : Nat), .int .u64 (vG xl 2 : Nat), .int .u64 (vG xl 3 : Nat), .int .u64 (vG xu 0 : Nat), .int .u64 (vG xu 1 : Nat), .int .u64 (vG xu 2 : Nat), .int .u64 (vG xu 3 : Nat)] 44)) 44 9 1 #[.string xs, .int .u64 (vG xl 0 : Nat), .int .u64 (vG xl 1 : Nat), .int .u64 (vG xl 2 : Nat), .int .u64 (vG xl 3 : Nat), .int .u64 (vG xu 0 : Nat), .int .u64 (vG xu 1 : Nat), .int .u64 (vG xu 2 : Nat), .int .u64 (vG xu 3 : Nat)] rfl (by simp [maxLen])
        rw [World.size_alloc] at hsl
        replace hsl := Lib.hid hsl
        by_cases hz1 : (xs, xl, xu) = noEnt
        · rw [decide_eq_true hz1] at hq2
          have hk0 : R.length = 0 := by
            rcases Nat.eq_zero_or_pos R.length with h | h
            · exact h
            · exact absurd ⟨hz1, h⟩ hz
          obtain rfl : R = [] := List.eq_nil_of_length_eq_zero hk0
          clear hz hz1 hk0
          go_wp2_with (at_builtin; go_must (refine wpList_appE (n := 0) (m := 1) rfl _ _ Tryd.slEntQ rfl (hb3.trans ((Ext.refl _).alloc _)) rfl (Ext.row ho3 ((Ext.refl _).alloc _)) rfl hsl.out hone (by omega) ?_; intro v5 w5 ho5 hb5 _))
          go_roundw
          case rel => exact ⟨[] ++ [(xs, xl, xu)], q2, by simp; omega, by rw [List.length_append]; go_num, rfl, by rw [List.length_append, entCellsQ_app]; exact ho5, hfs, hb5, by rw [List.length_append]; exact HG2.out⟩
          case measure => simp [intOf]; omega
        · rw [decide_eq_false hz1] at hq2
          clear hz hz1
          go_wp2_with (at_builtin; go_must (refine wpList_appE (n := R.length) (m := 1) rfl _ _ Tryd.slEntQ rfl (hb3.trans ((Ext.refl _).alloc _)) rfl (Ext.row ho3 ((Ext.refl _).alloc _)) rfl hsl.out hone (by omega) ?_; intro v5 w5 ho5 hb5 _))
          go_roundw
          case rel => exact ⟨R ++ [(xs, xl, xu)], q2, by simp; omega, by rw [List.length_append]; go_num, rfl, by rw [List.length_append, entCellsQ_app]; exact ho5, hfs, hb5, by rw [List.length_append]; exact HG2.out⟩
          case measure => simp [intOf]; omega
    · obtain rfl : N = R.length := by omega
      have hT : Tree wr (.slice p R.length cap) R := Tree.of_row ho rfl
      have C := CR.out R _ wr hb hR (by omega) hT
      have hE := hst.out
      rw [HG.out, Nat.sub_self, hs0.out] at hE
      simp only at hE
      clear hst HG
      cases hd : rightQ R with
      | false =>
        rw [hd] at C hE
        rw [if_neg (by simp)] at hE
        replace C := Lib.hid C
        clear hd
        go_wp2_with fail
        refine C.out.mono ?_; rintro e w3 ⟨rfl, h3⟩
        go_wp2
        refine bodyPost_ret (results3 rfl _ _ _) rfl ?_
        exact ⟨_, by rw [hE]; rfl, by rw [hE]; exact Tree.nil _, hb.trans h3⟩
      | true =>
        rw [hd] at C hE
        rw [if_pos rfl] at hE
        replace C := Lib.hid C
        clear hd
        go_wp2_with fail
        refine C.out.mono ?_; rintro e w3 ⟨rfl, h3⟩
        go_wp2
        refine bodyPost_ret (results3 rfl _ _ _) rfl ?_
        exact ⟨_, by rw [hE]; rfl, by rw [hE]; exact hT.ext h3, hb.trans h3⟩
end Go.Proofs.YtopnllbfhhjobaaDoor

namespace Go.Dm
open Go Go.RowKit
theorem OkS.fit_conc {S : StQ} (h : OkS S) : FitT (conc S) := by
  refine ⟨fun r hr => ?_, fun r hr => ?_, fun r hr => ?_⟩ <;> obtain ⟨j, hj, e1, e2⟩ := conc_mem hr
  · rw [e1]; have := pth_len j; omega
  · exact h.lim j _ e2
  · exact h.use j _ e2
theorem pth_small (k : Nat) : (pth k).size < 4294967281 := by have := pth_len k; omega
theorem conc_small (S : StQ) : (conc S).length ≤ 1099511627776 := by have := conc_len S; omega
def findS (S : StQ) (k : Nat) : EntQ × Bool := match S k with
  | some x => ((pth k, x.1, x.2), true)
  | none => (noEnt, false)
theorem find_conc (S : StQ) {k : Nat} (hk : k < 8) : findQ (conc S) (pth k) = findS S k := by
  unfold findQ findS
  cases h : S k with
  | none => rw [pl_none hk h, if_neg (by omega)]
  | some x =>
    obtain ⟨p1, p2, p3, _⟩ := pl_conc hk h
    rw [p1, if_pos p2, p3]
def freeS (S : StQ) : StQ := fun k => (S k).map fun x => (x.1, noV)
theorem free_conc (S : StQ) : freeT (conc S) = conc (freeS S) := by
  unfold freeT conc
  rw [List.map_flatMap]
  refine flatMap_same fun k _ => ?_
  unfold rowQ freeS
  cases S k <;> rfl
theorem could_conc (S : StQ) (v : Vc) {p : Nat} (hp : p < 8) : couldT (conc S) (pth p) v = decide ((chargeQ (freeS S) (chgS v) p).2 = 0) := by
  unfold couldT
  rw [free_conc, chg_lift, each_conc _ _ hp]
end Go.Dm
namespace Go.Proofs.YtopnllbfhhjobaaDoor
open Go.RowKit Go.Dm

theorem set_c (S : StQ) (hS : OkS S) (v : Value) {k : Nat} (hk : k < 8) (lim : Vc) (hl : OkV lim) (w : World) (hx : Tree w v (conc S)) (ht : Vars w) :
    Calls Tryd.prog 22 #[v, .string (pth k), vVal lim] w fun e w' => ∃ v', e = .returned (.tuple #[v', .int .i64 ((setQ S k lim).2 : Nat)]) ∧ Tree w' v' (conc (setQ S k lim).1) ∧ Ext w w' := by
  have h := qset_w (conc S) v (pth k) lim hl w (conc_small S) hS.fit_conc hx (pth_small k) ht
  rw [set_conc S hk] at h
  exact h
theorem charge_c (S : StQ) (hS : OkS S) (v : Value) {k : Nat} (hk : k < 8) (a : Vc) (ha : OkV a) (w : World) (hx : Tree w v (conc S)) (ht : Vars w) :
    Calls Tryd.prog 15 #[v, .string (pth k), vVal a] w fun e w' => ∃ v', e = .returned (.tuple #[v', .int .i64 ((chargeQ S (chgS a) k).2 : Nat)]) ∧ Tree w' v' (conc (chargeQ S (chgS a) k).1) ∧ Ext w w' := by
  have h := qCharge_w (conc S) v (pth k) a ha w (conc_small S) hS.fit_conc hx (pth_small k) ht
  rw [chg_lift, each_conc S _ hk] at h
  exact h
theorem chargeO_c (S : StQ) (hS : OkS S) (v : Value) {k : Nat} (hk : k < 8) (a : Vc) (ha : OkV a) (w : World) (hx : Tree w v (conc S)) (ht : Vars w) :
    Calls Tryd.prog 15 #[v, .string (pth k), vVal a] w fun e w' => ∃ v', e = .returned (.tuple #[v', .int .i64 ((chargeQ S (chgS a) k).2 : Nat)]) ∧ Tree w' v' (conc (chargeQ S (chgS a) k).1) ∧ Ext w w' ∧ ((chargeQ S (chgS a) k).2 = 0 → w'.ownsRow w.heap.size 44 9 v' (conc S).length (entCellsQ (conc (chargeQ S (chgS a) k).1))) := by
  have h := qChargeO_w (conc S) v (pth k) a ha w (conc_small S) hS.fit_conc hx (pth_small k) ht
  rw [chg_lift, each_conc S _ hk] at h
  exact h
theorem refund_c (S : StQ) (hS : OkS S) (v : Value) {k : Nat} (hk : k < 8) (a : Vc) (ha : OkV a) (w : World) (hx : Tree w v (conc S)) (ht : Vars w) :
    Calls Tryd.prog 12 #[v, .string (pth k), vVal a] w fun e w' => ∃ v', e = .returned (.tuple #[v', .int .i64 ((chargeQ S (rfdS a) k).2 : Nat)]) ∧ Tree w' v' (conc (chargeQ S (rfdS a) k).1) ∧ Ext w w' := by
  have h := qRefund_w (conc S) v (pth k) a ha w (conc_small S) hS.fit_conc hx (pth_small k) ht
  rw [rfd_lift, each_conc S _ hk] at h
  exact h
theorem find_c (S : StQ) (v : Value) {k : Nat} (hk : k < 8) (w : World) (hx : Tree w v (conc S)) :
    Calls Tryd.prog 20 #[v, .string (pth k)] w fun e w' => e = .returned (.tuple #[entVal (findS S k).1, .bool (findS S k).2]) ∧ Ext w w' := by
  have h := qfind_w (conc S) (pth k) v w (conc_small S) hx
  rw [find_conc S hk] at h
  exact h
theorem could_c (S : StQ) (hS : OkS S) (v : Value) {k : Nat} (hk : k < 8) (a : Vc) (ha : OkV a) (w : World) (hx : Tree w v (conc S)) (ht : Vars w) :
    Calls Tryd.prog 21 #[v, .string (pth k), vVal a] w fun e w' => e = .returned (.bool (decide ((chargeQ (freeS S) (chgS a) k).2 = 0))) ∧ Ext w w' := by
  have h := qcould_w (conc S) v (pth k) a ha w (conc_small S) hS.fit_conc hx (pth_small k) ht
  rw [could_conc S a hk] at h
  exact h
theorem right_c (S : StQ) (hS : OkS S) (v : Value) (w : World) (hx : Tree w v (conc S)) (ht : Vars w) :
    Calls Tryd.prog 11 #[v] w fun e w' => e = .returned (.bool (rightQ (conc S))) ∧ Ext w w' :=
  qright_w (conc S) v w (conc_small S) hS.fit_conc hx ht
end Go.Proofs.YtopnllbfhhjobaaDoor

namespace Go.Dm
open Go Go.RowKit
/-- An amount that is charged, by bytes; or given back. -/
abbrev ChQ := (Nat × Nat × Nat × Nat × Nat) × Bool
def noCh : ChQ := ((0, 0, 0, 0, 0), false)
def OkC (c : ChQ) : Prop := c.1.1 < 256 ∧ c.1.2.1 < 256 ∧ c.1.2.2.1 < 256 ∧ c.1.2.2.2.1 < 256 ∧ c.1.2.2.2.2 < 256
def chOne (c : ChQ) : List Value := [.int .u8 (c.1.1 : Nat), .int .u8 (c.1.2.1 : Nat), .int .u8 (c.1.2.2.1 : Nat), .int .u8 (c.1.2.2.2.1 : Nat), .int .u8 (c.1.2.2.2.2 : Nat), .bool c.2]
def chVal (c : ChQ) : Value := .agg #[.int .u8 (c.1.1 : Nat), .int .u8 (c.1.2.1 : Nat), .int .u8 (c.1.2.2.1 : Nat), .int .u8 (c.1.2.2.2.1 : Nat), .int .u8 (c.1.2.2.2.2 : Nat), .bool c.2]
def amtC (c : ChQ) : Vc := [c.1.2.1 % 8, c.1.2.2.1 % 8, c.1.2.2.2.1 % 8, c.1.2.2.2.2 % 8]
def chAt (l : List ChQ) (k : Nat) : ChQ := l.getD k noCh
theorem chAt_eq {l : List ChQ} {k : Nat} (h : k < l.length) : chAt l k = l[k] := by simp [chAt, h]
def chCells (l : List ChQ) : List Value := l.flatMap chOne
theorem chCells_len (R : List ChQ) : (chCells R).length = R.length * 6 := by
  induction R with
  | nil => rfl
  | cons x xs ih => simp only [chCells, chOne, List.flatMap_cons, List.length_append, List.length_cons, List.length_nil] at *; omega
theorem chCells_at : ∀ (xs : List ChQ) (k : Nat), k < xs.length → ∀ j, j < 6 → (chCells xs)[k*6+j]? = (chOne (chAt xs k))[j]?
  | x :: xs, 0, _, j, hj => by
    show (chOne x ++ chCells xs)[0*6+j]? = _
    rw [List.getElem?_append_left (by simp [chOne]; omega)]
    simp [chAt]
  | x :: xs, k+1, h, j, hj => by
    have := chCells_at xs k (by simpa using h) j hj
    show (chOne x ++ chCells xs)[(k+1)*6+j]? = _
    rw [List.getElem?_append_right (by simp [chOne]; omega)]
    rw [show (k + 1) * 6 + j - (chOne x).length = k * 6 + j by simp [chOne]; omega, this]
    simp [chAt]
/-- A slice value reads as these. -/
def Chs (w : World) (v : Value) (l : List ChQ) : Prop := Sl w 6 v l.length (chCells l)
theorem Chs.ext {w w' : World} {v l} (h : Chs w v l) (hb : Ext w w') : Chs w' v l := Sl.ext h hb
theorem Chs.shape {w : World} {v l} (h : Chs w v l) : ∃ p cap, v = .slice p l.length cap ∧ l.length ≤ cap ∧ cap ≤ maxLen := by
  obtain ⟨p, cap, h1, h2, h3, _⟩ := Sl.shape h
  exact ⟨p, cap, h1, h2, h3⟩
theorem Chs.at {w : World} {xs : List ChQ} {p cap} (h : Chs w (.slice p xs.length cap) xs) {k : Nat} (hk : k < xs.length) :
    ∃ b off, p = some ⟨b, off, none⟩ ∧ b < w.heap.size ∧ ∀ j, j < 6 → w.cell? ⟨b, off + k*6 + j, none⟩ = (chOne (chAt xs k))[j]? := by
  obtain ⟨b, off, hp, hb, h⟩ := Sl.at h (by omega)
  refine ⟨b, off, hp, hb, fun j hj => ?_⟩
  have := chCells_at xs k hk j hj
  obtain ⟨u, hu⟩ : ∃ u, (chOne (chAt xs k))[j]? = some u := ⟨_, List.getElem?_eq_getElem (by simp [chOne]; omega)⟩
  rw [hu] at this ⊢
  rw [Nat.add_assoc]
  exact h _ _ this
end Go.Dm
namespace Go.Proofs.YtopnllbfhhjobaaDoor
open Go.RowKit Go.Dm
set_option maxHeartbeats 4000000 in
set_option maxRecDepth 100000 in
theorem qsame_w (A B : List EntQ) (va vb : Value) (w : World) (hA : FitT A) (hB : FitT B) (hla : A.length ≤ 1099511627776) (hxa : Tree w va A) (hxb : Tree w vb B) :
    Calls Tryd.prog 19 #[va, vb] w fun e w' => e = .returned (.bool (decide (A = B))) ∧ Ext w w' := by
  obtain ⟨qa, capa, rfl, _, _⟩ := hxa.shape
  obtain ⟨qb, capb, rfl, _, _⟩ := hxb.shape
  by_cases hlen : A.length = B.length
  case neg =>
    have hf : Hid (decide (A = B) = false) := decide_eq_false fun h => hlen (by rw [h])
    have hi : ¬ ((A.length : Int) = (B.length : Int)) := by omega
    go_enter Tryd.func19, Tryd.ntmps19
    go_wp2
    go_ret
    exact ⟨by rw [hf.out]; rfl, Ext.refl _⟩
  have hno : ∀ k, k < A.length → eAt A k ≠ eAt B k → decide (A = B) = false := fun k hk h => decide_eq_false fun e => h (by rw [e])
  have hyes : (∀ k, k < A.length → eAt A k = eAt B k) → decide (A = B) = true := fun h => decide_eq_true (List.ext_getElem hlen fun k h1 h2 => by rw [← eAt_eq h1, ← eAt_eq h2]; exact h k h1)
  generalize decide (A = B) = d at *
  replace hno := Lib.hid hno
  replace hyes := Lib.hid hyes
  have hlh := Lib.hid hlen
  go_enter Tryd.func19, Tryd.ntmps19
  rw [← hlen]
  clear hlen
  go_wp2
  go_loopw [5] (fun i wr => ∃ k : Nat, k ≤ A.length ∧ i = .int .i64 k ∧ Ext w wr ∧ Hid (∀ j, j < k → eAt A j = eAt B j)) (fun i _ => A.length - (intOf i).toNat)
  case atStart => exact ⟨0, by omega, rfl, Ext.refl w, fun j hj => by omega⟩
  case round =>
    obtain ⟨k, hk', rfl, hb, HN⟩ := hrel
    by_cases hlt : k < A.length
    · have hltb : k < B.length := by rw [← hlh.out]; exact hlt
      obtain ⟨ba, oa, e1, hbla, hca⟩ := (hxa.ext hb).at hlt
      obtain ⟨bb, ob, e2, hblb, hcb⟩ := (hxb.ext hb).at hltb
      subst e1 e2
      have fa := hA.at hlt
      have fb := hB.at hltb
      have hq := fun U => run_neq_entQ (eqEnt (a := eAt A k) (b := eAt B k) ⟨by have := fa.1; unfold maxLen; omega, fa.2⟩ ⟨by have := fb.1; unfold maxLen; omega, fb.2⟩ U)
      have hN2 : eAt A k = eAt B k → ∀ j, j < k + 1 → eAt A j = eAt B j := fun h j hj => by
        rcases Nat.lt_succ_iff_lt_or_eq.1 hj with h' | rfl
        · exact HN.out j h'
        · exact h
      have hno2 := hno.out k hlt
      by_cases he : eAt A k = eAt B k
      · have hN3 := Lib.hid (hN2 he)
        rw [decide_eq_true he] at hq
        clear hN2 hno2 he HN
        obtain ⟨⟨xs, xl, xu⟩, hr⟩ : ∃ r, eAt A k = r := ⟨_, rfl⟩
        obtain ⟨⟨ys, yl, yu⟩, hs⟩ : ∃ r, eAt B k = r := ⟨_, rfl⟩
        rw [hr] at hca hq
        rw [hs] at hcb hq
        clear hr hs fa fb
        have hq2 : ∀ U, (binOp .neq 44 (.agg #[.string xs, .int .u64 (vG xl 0 : Nat), .int .u64 (vG xl 1 : Nat), .int .u64 (vG xl 2 : Nat), .int .u64 (vG xl 3 : Nat), .int .u64 (vG xu 0 : Nat), .int .u64 (vG xu 1 : Nat), .int .u64 (vG xu 2 : Nat), .int .u64 (vG xu 3 : Nat)]) (.agg #[.string ys, .int .u64 (vG yl 0 : Nat), .int .u64 (vG yl 1 : Nat), .int .u64 (vG yl 2 : Nat), .int .u64 (vG yl 3 : Nat), .int .u64 (vG yu 0 : Nat), .int .u64 (vG yu 1 : Nat), .int .u64 (vG yu 2 : Nat), .int .u64 (vG yu 3 : Nat)])).run Tryd.prog U = .ok (.bool false) U := hq
        clear hq
        have c0 := hca 0 (by omega)
        have c1 := hca 1 (by omega)
        have c2 := hca 2 (by omega)
        have c3 := hca 3 (by omega)
        have c4 := hca 4 (by omega)
        have c5 := hca 5 (by omega)
        have c6 := hca 6 (by omega)
        have c7 := hca 7 (by omega)
        have c8 := hca 8 (by omega)
        simp only [entOne, uAt, List.getElem?_cons_zero, List.getElem?_cons_succ, Nat.add_zero] at c0 c1 c2 c3 c4 c5 c6 c7 c8
        clear hca
        have d0 := hcb 0 (by omega)
        have d1 := hcb 1 (by omega)
        have d2 := hcb 2 (by omega)
        have d3 := hcb 3 (by omega)
        have d4 := hcb 4 (by omega)
        have d5 := hcb 5 (by omega)
        have d6 := hcb 6 (by omega)
        have d7 := hcb 7 (by omega)
        have d8 := hcb 8 (by omega)
        simp only [entOne, uAt, List.getElem?_cons_zero, List.getElem?_cons_succ, Nat.add_zero] at d0 d1 d2 d3 d4 d5 d6 d7 d8
        clear hcb
        go_wp2_with fail
        refine Dm.wp_region_grow (by kernel_rfl) (by kernel_rfl) ?_
        repeat (go_big_quiet_step (fail))
        refine wpQuiet_nil ?_
        intro w2 h2
        go_wp2
        go_roundw
        case rel => exact ⟨k + 1, by omega, by go_num, hb.trans h2, hN3⟩
        case measure => simp [intOf]; omega
      · have hf := Lib.hid (hno2 he)
        rw [decide_eq_false he] at hq
        clear hN2 hno2 he HN
        obtain ⟨⟨xs, xl, xu⟩, hr⟩ : ∃ r, eAt A k = r := ⟨_, rfl⟩
        obtain ⟨⟨ys, yl, yu⟩, hs⟩ : ∃ r, eAt B k = r := ⟨_, rfl⟩
        rw [hr] at hca hq
        rw [hs] at hcb hq
        clear hr hs fa fb
        have hq2 : ∀ U, (binOp .neq 44 (.agg #[.string xs, .int .u64 (vG xl 0 : Nat), .int .u64 (vG xl 1 : Nat), .int .u64 (vG xl 2 : Nat), .int .u64 (vG xl 3 : Nat), .int .u64 (vG xu 0 : Nat), .int .u64 (vG xu 1 : Nat), .int .u64 (vG xu 2 : Nat), .int .u64 (vG xu 3 : Nat)]) (.agg #[.string ys, .int .u64 (vG yl 0 : Nat), .int .u64 (vG yl 1 : Nat), .int .u64 (vG yl 2 : Nat), .int .u64 (vG yl 3 : Nat), .int .u64 (vG yu 0 : Nat), .int .u64 (vG yu 1 : Nat), .int .u64 (vG yu 2 : Nat), .int .u64 (vG yu 3 : Nat)])).run Tryd.prog U = .ok (.bool true) U := hq
        clear hq
        have c0 := hca 0 (by omega)
        have c1 := hca 1 (by omega)
        have c2 := hca 2 (by omega)
        have c3 := hca 3 (by omega)
        have c4 := hca 4 (by omega)
        have c5 := hca 5 (by omega)
        have c6 := hca 6 (by omega)
        have c7 := hca 7 (by omega)
        have c8 := hca 8 (by omega)
        simp only [entOne, uAt, List.getElem?_cons_zero, List.getElem?_cons_succ, Nat.add_zero] at c0 c1 c2 c3 c4 c5 c6 c7 c8
        clear hca
        have d0 := hcb 0 (by omega)
        have d1 := hcb 1 (by omega)
        have d2 := hcb 2 (by omega)
        have d3 := hcb 3 (by omega)
        have d4 := hcb 4 (by omega)
        have d5 := hcb 5 (by omega)
        have d6 := hcb 6 (by omega)
        have d7 := hcb 7 (by omega)
        have d8 := hcb 8 (by omega)
        simp only [entOne, uAt, List.getElem?_cons_zero, List.getElem?_cons_succ, Nat.add_zero] at d0 d1 d2 d3 d4 d5 d6 d7 d8
        clear hcb
        go_wp2_with fail
        refine Dm.wp_region_grow (by kernel_rfl) (by kernel_rfl) ?_
        repeat (go_big_quiet_step (fail))
        refine wpQuiet_nil ?_
        intro w2 h2
        go_wp2
        go_ret
        exact ⟨by rw [hf.out]; rfl, hb.trans h2⟩
    · obtain rfl : k = A.length := by omega
      have hf := Lib.hid (hyes.out HN.out)
      go_wp2
      go_ret
      exact ⟨by rw [hf.out]; rfl, hb⟩

theorem qpaths_w (w : World) : Calls Tryd.prog 13 #[] w fun e w' => ∃ v, e = .returned v ∧ Strs w' v pathsB ∧ Ext w w' := by
  have hs : ∀ U : World, Strs (U.alloc (.cells #[.string ⟨#[]⟩, .string ⟨#[97]⟩, .string ⟨#[97, 47, 98]⟩, .string ⟨#[97, 47, 98, 47, 99]⟩, .string ⟨#[97, 47, 120]⟩, .string ⟨#[98]⟩, .string ⟨#[98, 47, 121]⟩, .string ⟨#[206, 177, 206, 178]⟩] 9)) (.slice (some ⟨U.heap.size, 0, none⟩) 8 8) pathsB := fun U =>
    Sl.lit U 9 1 8 #[.string ⟨#[]⟩, .string ⟨#[97]⟩, .string ⟨#[97, 47, 98]⟩, .string ⟨#[97, 47, 98, 47, 99]⟩, .string ⟨#[97, 47, 120]⟩, .string ⟨#[98]⟩, .string ⟨#[98, 47, 121]⟩, .string ⟨#[206, 177, 206, 178]⟩] rfl (by simp [maxLen])
  replace hs := Lib.hid hs
  go_enter Tryd.func13, Tryd.ntmps13
  go_wp2
  go_ret
  exact ⟨_, rfl, hs.out _, (Ext.refl _).alloc _⟩

theorem qamount_w (c : ChQ) (hc : OkC c) (w : World) : Calls Tryd.prog 14 #[chVal c] w fun e w' => e = .returned (vVal (amtC c)) ∧ Ext w w' := by
  obtain ⟨⟨x, a, b, g, d⟩, k⟩ := c
  obtain ⟨h0, h1, h2, h3, h4⟩ := hc
  simp only at h0 h1 h2 h3 h4
  have e1 : (a : Int) % 18446744073709551616 = a := by omega
  unfold chVal vVal vF amtC
  simp only
  go_enter Tryd.func14, Tryd.ntmps14
  go_wp2
  refine bodyPost_ret (v := .agg #[.int .u64 ((a : Int) % 8), .int .u64 ((b : Int) % 8), .int .u64 ((g : Int) % 8), .int .u64 ((d : Int) % 8)]) (by simp [results, Tryd.results14, go_sem]) rfl ?_
  exact ⟨by simp [vG], ((Ext.refl _).alloc _).alloc _⟩
end Go.Proofs.YtopnllbfhhjobaaDoor
