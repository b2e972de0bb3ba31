/- Texts one behind the other: Chapter 13: the laws' arguments; Chapter 13: the walks of the laws' refL, refS, refSlots; Chapter 13: the walk of the document's best; Chapter 13: the walk of the document's Room. -/
import Derived.Test.YtibimbcjnjefdaaT6
import Derived.Test.YtibimbcjnjefdaaT12
import Derived.Lib.SmallJoins
import Derived.SizedLaws
import Derived.ProofKit
import Derived.Test.YtibimbcjnjefdaaT13
import Derived.Test.YtibimbcjnjefdaaT14
import Derived.Test.YtibimbcjnjefdaaT15
import Derived.Test.YtibimbcjnjefdaaT8
import Derived.Test.YtibimbcjnjefdaaT21
namespace Go.Proofs.Ytibimbcjnjefdaa
open Go.RowKit Go.Dm Go.ChangeShapes Go.WideShapes

theorem Try.own : ownKnob Try.prog.godebug = none := by kernel_rfl
theorem Try.laidOut : laidOutB Try.prog = true := by kernel_rfl

set_option maxRecDepth 100000 in
theorem Try.openVec {H : Type} {enc : TypeId × Value → H} {W : World} {base : Nat} {v : Value} {d : DataW H} {ps : List MemPlace} (hv : Value.okWide Try.prog W .any base 26 v)
    (h : DataW.Trod enc Try.prog W 0 (fun _ => true) true 26 v d ps) : ∃ a : Vc, OkV a ∧ v = vVal a :=
  open_vec Try.underlying26 Try.underlying24 (by kernel_rfl) (by kernel_rfl) hv h

set_option maxRecDepth 100000 in
theorem Try.openSlots {H : Type} {enc : TypeId × Value → H} {W : World} {ts : List TypeId} {ds : List (DataW H)} {j : Nat} {a : Option Addr} {len cap : Nat} {d : DataW H} {ps : List MemPlace}
    (hsz : (DataW.weightsEach Try.prog ts ds).all (· ≤ reachBytes) = true) (ht : ts[j]? = some 22) (hd : ds[j]? = some d)
    (h : DataW.Trod enc Try.prog W 0 (fun _ => true) true 22 (.slice a len cap) d ps) : ∃ R : List SlotR, Slots W (.slice a len cap) R ∧ R.length * 72 ≤ 140737488351232 ∧ FitK R := by
  obtain ⟨R, hx, hc⟩ := slots_of_trod Try.underlying22 Try.underlying47 (by kernel_rfl) rfl rfl rfl (by kernel_rfl) (by kernel_rfl) (by kernel_rfl)
    Try.underlying9 Try.underlying26 Try.underlying24 (by kernel_rfl)
    Try.underlying45 Try.underlying57 (by kernel_rfl) rfl rfl (by kernel_rfl) (by kernel_rfl) Try.underlying9 Try.underlying9 h
  have hw : ∀ n ∈ d.weights Try.prog 22, n ≤ reachBytes := fun n hn => of_decide_eq_true (List.all_eq_true.1 hsz _ (DataW.weights_mem_each ht hd _ hn))
  have hb : Try.prog.bytesOf 47 = 72 := by kernel_rfl
  have hf := slots_fit Try.underlying22 Try.underlying47 Try.underlying45 (by kernel_rfl) hc hw
  rw [hb] at hf
  exact ⟨R, hx, hf.1, hf.2⟩

/-- A selector among the arguments: its texts are of a size that a run can hold. -/
theorem Try.openTerms {H : Type} {enc : TypeId × Value → H} {W : World} {ts : List TypeId} {ds : List (DataW H)} {j : Nat} {a : Option Addr} {len cap : Nat} {d : DataW H} {ps : List MemPlace}
    (hsz : (DataW.weightsEach Try.prog ts ds).all (· ≤ reachBytes) = true) (ht : ts[j]? = some 23) (hd : ds[j]? = some d)
    (h : DataW.Trod enc Try.prog W 0 (fun _ => true) true 23 (.slice a len cap) d ps) : ∃ R : List RowS, Terms W (.slice a len cap) R ∧ R.length ≤ 2932031007319 ∧ FitR R := by
  obtain ⟨R, hx, hc⟩ := terms_of_trod Try.underlying23 Try.underlying59 (by kernel_rfl) rfl rfl rfl (by kernel_rfl) (by kernel_rfl) (by kernel_rfl) Try.underlying9 Try.underlying4 Try.underlying28 Try.underlying9 (by kernel_rfl) h
  have hw : ∀ n ∈ d.weights Try.prog 23, n ≤ reachBytes := fun n hn => of_decide_eq_true (List.all_eq_true.1 hsz _ (DataW.weights_mem_each ht hd _ hn))
  have hb : Try.prog.bytesOf 59 = 48 := by kernel_rfl
  have hf := terms_fit Try.underlying23 Try.underlying59 Try.underlying28 (by kernel_rfl) hc hw
  rw [hb] at hf
  refine ⟨R, hx, ?_, hf.2⟩
  have := hf.1
  simp only [reachBytes] at this
  omega

end Go.Proofs.Ytibimbcjnjefdaa

namespace Go.Dm
open Go Go.RowKit

/-- A row of slots of the call's own, their labels apart from it. -/
structure LRow (e : TypeId) (B : Nat) (w : World) (v : Value) (n : Nat) (R : List SlotR) : Prop where
  row : w.ownsRow B e 6 v n (slotCells R)
  labs : ∀ r ∈ R, Pairs w r.2.2.1 r.2.2.2 ∧ (r.2.2.2 = [] ∨ Apart r.2.2.1 v)
theorem LRow.nil (e : TypeId) (B : Nat) (w : World) : LRow e B w (.slice none 0 0) 0 [] := ⟨World.ownsRow_nil _ _ _ _, fun r hr => by cases hr⟩
theorem LRow.ext {e B : Nat} {w w' : World} {v : Value} {n : Nat} {R : List SlotR} (h : LRow e B w v n R) (hx : Ext w w') : LRow e B w' v n R :=
  ⟨Ext.row h.row hx, fun r hr => ⟨(h.labs r hr).1.ext hx, (h.labs r hr).2⟩⟩
theorem LRow.lt {e B : Nat} {w : World} {v : Value} {n : Nat} {R : List SlotR} (h : LRow e B w v n R) {b : Nat} (hb : v.ownBlock = some b) : B ≤ b ∧ b < w.heap.size := World.ownsRow.lt h.row b hb
theorem LRow.app {e B : Nat} {w w' : World} {v v' : Value} {n : Nat} {R : List SlotR} {r : SlotR} (h : LRow e B w v n R) (ho : w'.ownsRow B e 6 v' (n + 1) (slotCells R ++ slotOne r)) (hg : w.grownBy w' v.ownBlock)
    (hor : v'.ownBlock = v.ownBlock ∨ v'.ownBlock = some w.heap.size) (hr : Pairs w r.2.2.1 r.2.2.2) (ha : Apart r.2.2.1 v) : LRow e B w' v' (n + 1) (R ++ [r]) := by
  have key : ∀ s : SlotR, Pairs w s.2.2.1 s.2.2.2 ∧ (s.2.2.2 = [] ∨ Apart s.2.2.1 v) → Pairs w' s.2.2.1 s.2.2.2 ∧ (s.2.2.2 = [] ∨ Apart s.2.2.1 v') := by
    intro s hs
    by_cases h0 : s.2.2.2 = []
    · refine ⟨Sl.grown hs.1 hg (Or.inl (by rw [h0]; rfl)), Or.inl h0⟩
    · have hap := hs.2.resolve_left h0
      refine ⟨Sl.grown hs.1 hg (Or.inr fun b hb => hap b hb), Or.inr fun b hb hv => ?_⟩
      rcases hor with e | e
      · rw [e] at hv; exact hap b hb hv
      · rw [e] at hv
        injection hv with hv
        have := Sl.own_lt hs.1 (fun e => h0 (List.length_eq_zero_iff.1 e)) hb
        omega
  refine ⟨by rw [slotCells_app]; simpa [slotCells] using ho, fun s hs => ?_⟩
  rcases List.mem_append.1 hs with hs | hs
  · exact key s (h.labs s hs)
  · rw [List.mem_singleton.1 hs]
    exact key r ⟨hr, Or.inr ha⟩
/-- A slot, but for where its labels lie. -/
def stripV (r : SlotR) : SlotR := (r.1, r.2.1, .slice none 0 0, r.2.2.2)
end Go.Dm
namespace Go.Proofs.Ytibimbcjnjefdaa
open Go.RowKit Go.Dm

theorem Try.slPairR : SlT Try.prog 64 85 2 32 := SlT.mk' Try.underlying64 (by kernel_rfl) (by decide) (by decide)
theorem Try.slTermR : SlT Try.prog 34 70 3 48 := SlT.mk' Try.underlying34 (by kernel_rfl) (by decide) (by decide)
theorem Try.slSlotR : SlT Try.prog 32 66 6 72 := SlT.mk' Try.underlying32 (by kernel_rfl) (by decide) (by decide)

set_option maxHeartbeats 1000000 in
set_option maxRecDepth 100000 in
theorem krefl_w (l : List PairS) (v : Value) (w : World) (hm : l.length ≤ 4398046511104) (hx : Pairs w v l) :
    Calls Try.prog 26 #[v] w fun e w' => ∃ r, e = .returned r ∧ Pairs w' r l ∧ (∀ b, r.ownBlock = some b → w.heap.size ≤ b) ∧ Ext w w' := by
  obtain ⟨q, cap, rfl, hcap, hcm⟩ := hx.shape
  go_enter Try.func26, Try.ntmps26
  go_wp2
  go_loopw [3, 4] (fun r i' wr => ∃ k : Nat, k ≤ l.length ∧ i' = .int .i64 k ∧ Ext w wr ∧ wr.ownsRow w.heap.size 85 2 r k (pairCells (l.take k))) (fun _ i' _ => l.length - (intOf i').toNat)
  case atStart => exact ⟨0, by omega, rfl, Ext.refl _, World.ownsRow_nil _ _ _ _⟩
  case round =>
    obtain ⟨k, hk, rfl, hb, ho⟩ := hrel
    by_cases hlt : k < l.length
    · obtain ⟨bb, off, rfl, hbl, c0, c1⟩ := hx.at hlt
      have hst : Hid (pairCells (l.take (k + 1)) = pairCells (l.take k) ++ [.string (pairAt l k).1, .string (pairAt l k).2]) := by
        show _ = _
        rw [take_snocP hlt, pairCells_app]; rfl
      generalize (pairAt l k).1 = s1 at *
      generalize (pairAt l k).2 = s2 at *
      go_wp2_with fail
      try simp only [Act.put, List.setIfInBounds_toArray, List.set_cons_succ, List.set_cons_zero]
      refine Dm.wp_region_ext 15 (Dm.bits 15 0) hb (by kernel_rfl) (by kernel_rfl) (by kernel_rfl) ?_
      refine Dm.wpE_take (i := 0) (listed' := (Dm.bits 15 1)) (by kernel_rfl) (by kernel_rfl) rfl (fun _ _ _ _ h => h) ?_; apply Exists.intro; refine And.intro (fun x => ?_) ?_
      · go_big_quiet_step (fail); exact wpQuiet_nil rfl
      refine Dm.wpE_take (i := 1) (listed' := (Dm.bits 15 3)) (by kernel_rfl) (by kernel_rfl) rfl (fun _ _ _ _ h => h) ?_; apply Exists.intro; refine And.intro (fun x => ?_) ?_
      · go_big_quiet_step (fail); exact wpQuiet_nil rfl
      refine Dm.wpE_take (i := 2) (listed' := (Dm.bits 15 7)) (by kernel_rfl) (by kernel_rfl) rfl (fun _ _ _ _ h => h) ?_; apply Exists.intro; refine And.intro (fun x => ?_) ?_
      · go_big_quiet_step (fail); exact wpQuiet_nil rfl
      refine Dm.wpE_take (i := 3) (listed' := (Dm.bits 15 15)) (by kernel_rfl) (by kernel_rfl) rfl (fun _ _ _ _ h => h) ?_; apply Exists.intro; refine And.intro (fun x => ?_) ?_
      · go_big_quiet_step (fail); exact wpQuiet_nil rfl
      refine Dm.wpE_take (i := 4) (listed' := (Dm.bits 15 31)) (by kernel_rfl) (by kernel_rfl) rfl (fun _ _ _ _ h => h) ?_; apply Exists.intro; refine And.intro (fun x => ?_) ?_
      · go_big_quiet_step (fail); exact wpQuiet_nil rfl
      refine Dm.wpE_take (i := 5) (listed' := (Dm.bits 15 63)) (by kernel_rfl) (by kernel_rfl) rfl (fun _ _ _ _ h => h) ?_; apply Exists.intro; refine And.intro (fun x => ?_) ?_
      · go_big_quiet_step (fail); exact wpQuiet_nil rfl
      refine Dm.wpE_take (i := 6) (listed' := (Dm.bits 15 127)) (by kernel_rfl) (by kernel_rfl) rfl (fun _ _ _ _ h => h) ?_; apply Exists.intro; refine And.intro (fun x => ?_) ?_
      · go_big_quiet_step (fail); exact wpQuiet_nil rfl
      refine Dm.wpE_take (i := 7) (listed' := (Dm.bits 15 255)) (by kernel_rfl) (by kernel_rfl) rfl (fun _ _ _ _ h => h) ?_; apply Exists.intro; refine And.intro (fun x => ?_) ?_
      · go_big_quiet_step (fail); exact wpQuiet_nil rfl
      refine Dm.wpE_take (i := 8) (listed' := (Dm.bits 15 511)) (by kernel_rfl) (by kernel_rfl) rfl (fun _ _ _ _ h => h) ?_; apply Exists.intro; refine And.intro (fun x => ?_) ?_
      · go_big_quiet_step (fail); exact wpQuiet_nil rfl
      refine Dm.wpE_take (i := 9) (listed' := (Dm.bits 15 1023)) (by kernel_rfl) (by kernel_rfl) rfl (fun _ _ _ _ h => h) ?_; apply Exists.intro; refine And.intro (fun x => ?_) ?_
      · go_big_quiet_step (fail); exact wpQuiet_nil rfl
      refine Dm.wpE_take (i := 10) (listed' := (Dm.bits 15 2047)) (by kernel_rfl) (by kernel_rfl) rfl (fun _ _ _ _ h => h) ?_; apply Exists.intro; refine And.intro (fun x => ?_) ?_
      · go_big_quiet_step (fail); exact wpQuiet_nil rfl
      refine Dm.wpE_take (i := 11) (listed' := (Dm.bits 15 4095)) (by kernel_rfl) (by kernel_rfl) rfl (fun _ _ _ _ h => h) ?_; apply Exists.intro; refine And.intro (fun x => ?_) ?_
      · go_big_quiet_step (fail); exact wpQuiet_nil rfl
      refine Dm.wpE_one (i := 12) (listed' := (Dm.bits 15 8191)) (by kernel_rfl) (by kernel_rfl) rfl hb (fun w1a hx1a => ?_)
      have hX1a := Ext.trans hb hx1a
      have hoa := Ext.row ho hx1a
      go_wp2_with fail
      have hl := Sl.lit w1a 85 2 1 #[.string s1, .string s2] rfl (by simp [maxLen])
      have hs1 := (Ext.refl w1a).alloc (.cells #[.string s1, .string s2] 85)
      generalize w1a.alloc (.cells #[.string s1, .string s2] 85) = w1b at *
      have hX1b := Ext.trans hX1a hs1
      replace hoa := Ext.row hoa hs1
      try simp only [Exit.then, Act.put, List.setIfInBounds_toArray, List.set_cons_succ, List.set_cons_zero]
      refine Dm.wpE_one (i := 13) (listed' := (Dm.bits 15 16383)) (by kernel_rfl) (by kernel_rfl) rfl hX1b (fun w2a hx2a => ?_)
      have hX2a := Ext.trans hX1b hx2a
      replace hl := hl.ext hx2a
      refine wpList_appE rfl _ _ Try.slPairR rfl hX2a rfl (Ext.row hoa hx2a) rfl hl (pairCells_one [(s1, s2)]) (by omega) ?_
      intro v2 w2b ho3 hX2b _
      refine wpList_nil ?_
      try simp only [Exit.then, Act.put, List.setIfInBounds_toArray, List.set_cons_succ, List.set_cons_zero]
      refine Dm.wpE_take (i := 14) (listed' := (Dm.bits 15 32767)) (by kernel_rfl) (by kernel_rfl) rfl (fun _ _ _ _ h => h) ?_; apply Exists.intro; refine And.intro (fun x => ?_) ?_
      · go_big_quiet_step (fail); exact wpQuiet_nil rfl
      refine Dm.wpE_done (by kernel_rfl) hX2b (fun w3a hx3a => ?_)
      have hX3a := Ext.trans hX2b hx3a
      replace ho3 := Ext.row ho3 hx3a
      go_wp2
      go_roundw
      case rel => exact ⟨k + 1, by omega, by go_num, hX3a, by rw [hst.out]; exact ho3⟩
      case measure => simp [intOf]; omega
    · obtain rfl : k = l.length := by omega
      go_wp2
      go_ret
      rw [List.take_length] at ho
      exact ⟨_, rfl, Pairs.of_row ho rfl, fun b hb => (World.ownsRow.lt ho b hb).1, hb⟩

set_option maxHeartbeats 2000000 in
set_option maxRecDepth 100000 in
theorem krefs_w (R : List RowS) (v : Value) (w : World) (hm : R.length ≤ 2932031007319) (hx : Terms w v R) :
    Calls Try.prog 13 #[v] w fun e w' => ∃ r, e = .returned r ∧ Terms w' r R ∧ Ext w w' := by
  obtain ⟨q, cap, rfl, hcap, hcm⟩ := hx.shape
  go_enter Try.func13, Try.ntmps13
  go_wp2
  go_loopw [3, 4] (fun r i' wr => ∃ k : Nat, k ≤ R.length ∧ i' = .int .i64 k ∧ Ext w wr ∧ TRow 70 w.heap.size wr r k (R.take k)) (fun _ i' _ => R.length - (intOf i').toNat)
  case atStart => exact ⟨0, by omega, rfl, Ext.refl _, by rw [List.take_zero]; exact TRow.nil _ _ _⟩
  case round =>
    obtain ⟨k, hk, rfl, hb, ho⟩ := hrel
    by_cases hlt : k < R.length
    · obtain ⟨bb, off, rfl, hbl, c0, c1, c2⟩ := hx.at hlt
      have vx0 := hx.val hlt
      have hst : Hid (R.take (k + 1) = R.take k ++ [sAtR R k]) := take_snocT hlt
      generalize sAtR R k = r at *
      obtain ⟨k1, n1, v1, vals1⟩ := r
      have vx0 : Strs w v1 vals1 := vx0
      simp only at c0 c1 c2
      have hap : vals1 = [] ∨ Apart v1 u3 := by
        by_cases h0 : vals1 = []
        · exact Or.inl h0
        · exact Or.inr (ho.apart_old (fun b hb => Sl.own_lt vx0 (fun e => h0 (List.length_eq_zero_iff.1 e)) hb))
      obtain ⟨q3, cap3, rfl, _, _⟩ := vx0.shape
      replace hap := Lib.hid hap
      go_wp2_with fail
      try simp only [Act.put, List.setIfInBounds_toArray, List.set_cons_succ, List.set_cons_zero]
      refine Dm.wp_region_ext 20 (Dm.bits 20 0) hb (by kernel_rfl) (by kernel_rfl) (by kernel_rfl) ?_
      refine Dm.wpE_take (i := 0) (listed' := (Dm.bits 20 1)) (by kernel_rfl) (by kernel_rfl) rfl (fun _ _ _ _ h => h) ?_; apply Exists.intro; refine And.intro (fun x => ?_) ?_
      · go_big_quiet_step (fail); exact wpQuiet_nil rfl
      refine Dm.wpE_take (i := 1) (listed' := (Dm.bits 20 3)) (by kernel_rfl) (by kernel_rfl) rfl (fun _ _ _ _ h => h) ?_; apply Exists.intro; refine And.intro (fun x => ?_) ?_
      · go_big_quiet_step (fail); exact wpQuiet_nil rfl
      refine Dm.wpE_take (i := 2) (listed' := (Dm.bits 20 7)) (by kernel_rfl) (by kernel_rfl) rfl (fun _ _ _ _ h => h) ?_; apply Exists.intro; refine And.intro (fun x => ?_) ?_
      · go_big_quiet_step (fail); exact wpQuiet_nil rfl
      refine Dm.wpE_take (i := 3) (listed' := (Dm.bits 20 15)) (by kernel_rfl) (by kernel_rfl) rfl (fun _ _ _ _ h => h) ?_; apply Exists.intro; refine And.intro (fun x => ?_) ?_
      · go_big_quiet_step (fail); exact wpQuiet_nil rfl
      refine Dm.wpE_take (i := 4) (listed' := (Dm.bits 20 31)) (by kernel_rfl) (by kernel_rfl) rfl (fun _ _ _ _ h => h) ?_; apply Exists.intro; refine And.intro (fun x => ?_) ?_
      · go_big_quiet_step (fail); exact wpQuiet_nil rfl
      refine Dm.wpE_take (i := 5) (listed' := (Dm.bits 20 63)) (by kernel_rfl) (by kernel_rfl) rfl (fun _ _ _ _ h => h) ?_; apply Exists.intro; refine And.intro (fun x => ?_) ?_
      · go_big_quiet_step (fail); exact wpQuiet_nil rfl
      refine Dm.wpE_take (i := 6) (listed' := (Dm.bits 20 127)) (by kernel_rfl) (by kernel_rfl) rfl (fun _ _ _ _ h => h) ?_; apply Exists.intro; refine And.intro (fun x => ?_) ?_
      · go_big_quiet_step (fail); exact wpQuiet_nil rfl
      refine Dm.wpE_take (i := 7) (listed' := (Dm.bits 20 255)) (by kernel_rfl) (by kernel_rfl) rfl (fun _ _ _ _ h => h) ?_; apply Exists.intro; refine And.intro (fun x => ?_) ?_
      · go_big_quiet_step (fail); exact wpQuiet_nil rfl
      refine Dm.wpE_take (i := 8) (listed' := (Dm.bits 20 511)) (by kernel_rfl) (by kernel_rfl) rfl (fun _ _ _ _ h => h) ?_; apply Exists.intro; refine And.intro (fun x => ?_) ?_
      · go_big_quiet_step (fail); exact wpQuiet_nil rfl
      refine Dm.wpE_take (i := 9) (listed' := (Dm.bits 20 1023)) (by kernel_rfl) (by kernel_rfl) rfl (fun _ _ _ _ h => h) ?_; apply Exists.intro; refine And.intro (fun x => ?_) ?_
      · go_big_quiet_step (fail); exact wpQuiet_nil rfl
      refine Dm.wpE_take (i := 10) (listed' := (Dm.bits 20 2047)) (by kernel_rfl) (by kernel_rfl) rfl (fun _ _ _ _ h => h) ?_; apply Exists.intro; refine And.intro (fun x => ?_) ?_
      · go_big_quiet_step (fail); exact wpQuiet_nil rfl
      refine Dm.wpE_take (i := 11) (listed' := (Dm.bits 20 4095)) (by kernel_rfl) (by kernel_rfl) rfl (fun _ _ _ _ h => h) ?_; apply Exists.intro; refine And.intro (fun x => ?_) ?_
      · go_big_quiet_step (fail); exact wpQuiet_nil rfl
      refine Dm.wpE_take (i := 12) (listed' := (Dm.bits 20 8191)) (by kernel_rfl) (by kernel_rfl) rfl (fun _ _ _ _ h => h) ?_; apply Exists.intro; refine And.intro (fun x => ?_) ?_
      · go_big_quiet_step (fail); exact wpQuiet_nil rfl
      refine Dm.wpE_take (i := 13) (listed' := (Dm.bits 20 16383)) (by kernel_rfl) (by kernel_rfl) rfl (fun _ _ _ _ h => h) ?_; apply Exists.intro; refine And.intro (fun x => ?_) ?_
      · go_big_quiet_step (fail); exact wpQuiet_nil rfl
      refine Dm.wpE_take (i := 14) (listed' := (Dm.bits 20 32767)) (by kernel_rfl) (by kernel_rfl) rfl (fun _ _ _ _ h => h) ?_; apply Exists.intro; refine And.intro (fun x => ?_) ?_
      · go_big_quiet_step (fail); exact wpQuiet_nil rfl
      refine Dm.wpE_take (i := 15) (listed' := (Dm.bits 20 65535)) (by kernel_rfl) (by kernel_rfl) rfl (fun _ _ _ _ h => h) ?_; apply Exists.intro; refine And.intro (fun x => ?_) ?_
      · go_big_quiet_step (fail); exact wpQuiet_nil rfl
      refine Dm.wpE_take (i := 16) (listed' := (Dm.bits 20 131071)) (by kernel_rfl) (by kernel_rfl) rfl (fun _ _ _ _ h => h) ?_; apply Exists.intro; refine And.intro (fun x => ?_) ?_
      · go_big_quiet_step (fail); exact wpQuiet_nil rfl
      refine Dm.wpE_one (i := 17) (listed' := (Dm.bits 20 262143)) (by kernel_rfl) (by kernel_rfl) rfl hb (fun w1a hx1a => ?_)
      have hX1a := Ext.trans hb hx1a
      have hoa := ho.ext hx1a
      have hva := vx0.ext hX1a
      go_wp2_with fail
      have hl := Sl.lit w1a 70 3 1 #[.string k1, .bool n1, .slice q3 vals1.length cap3] rfl (by simp [maxLen])
      have hs1 := (Ext.refl w1a).alloc (.cells #[.string k1, .bool n1, .slice q3 vals1.length cap3] 70)
      generalize w1a.alloc (.cells #[.string k1, .bool n1, .slice q3 vals1.length cap3] 70) = w1b at *
      have hX1b := Ext.trans hX1a hs1
      replace hoa := hoa.ext hs1
      replace hva := hva.ext hs1
      try simp only [Exit.then, Act.put, List.setIfInBounds_toArray, List.set_cons_succ, List.set_cons_zero]
      refine Dm.wpE_one (i := 18) (listed' := (Dm.bits 20 524287)) (by kernel_rfl) (by kernel_rfl) rfl hX1b (fun w2a hx2a => ?_)
      have hX2a := Ext.trans hX1b hx2a
      replace hl := hl.ext hx2a
      refine wpList_appT rfl _ _ Try.slTermR rfl hX2a rfl (hoa.ext hx2a) (r := (k1, n1, .slice q3 vals1.length cap3, vals1)) rfl hl (hva.ext hx2a) hap.out (by omega) ?_
      intro v2 w2b ho3 hX2b _
      refine wpList_nil ?_
      try simp only [Exit.then, Act.put, List.setIfInBounds_toArray, List.set_cons_succ, List.set_cons_zero]
      refine Dm.wpE_take (i := 19) (listed' := (Dm.bits 20 1048575)) (by kernel_rfl) (by kernel_rfl) rfl (fun _ _ _ _ h => h) ?_; apply Exists.intro; refine And.intro (fun x => ?_) ?_
      · go_big_quiet_step (fail); exact wpQuiet_nil rfl
      refine Dm.wpE_done (by kernel_rfl) hX2b (fun w3a hx3a => ?_)
      have hX3a := Ext.trans hX2b hx3a
      replace ho3 := ho3.ext hx3a
      go_wp2
      go_roundw
      case rel => exact ⟨k + 1, by omega, by go_num, hX3a, by rw [hst.out]; exact ho3⟩
      case measure => simp [intOf]; omega
    · obtain rfl : k = R.length := by omega
      go_wp2
      go_ret
      rw [List.take_length] at ho
      exact ⟨_, rfl, ho.terms rfl, hb⟩

set_option maxHeartbeats 4000000 in
set_option maxRecDepth 100000 in
theorem krefslots_w (R : List SlotR) (v : Value) (w : World) (hm : R.length * 72 ≤ 140737488355328) (hk : ∀ r ∈ R, r.2.2.2.length ≤ 4398046511104) (hx : Slots w v R) :
    Calls Try.prog 12 #[v] w fun e w' => ∃ r R', e = .returned r ∧ Slots w' r R' ∧ R'.map stripV = R.map stripV ∧ Ext w w' := by
  obtain ⟨q, cap, rfl, hcap, hcm⟩ := hx.shape
  have CV := fun (a : Vc) U => refv_w a U
  unfold vVal vF at CV
  replace CV := Lib.hid CV
  go_enter Try.func12, Try.ntmps12
  go_wp2
  go_loopw [3, 4] (fun r i' wr => ∃ (k : Nat) (R' : List SlotR), k ≤ R.length ∧ i' = .int .i64 k ∧ Ext w wr ∧ LRow 66 w.heap.size wr r k R' ∧ Hid (R'.map stripV = (R.take k).map stripV)) (fun _ i' _ => R.length - (intOf i').toNat)
  case atStart => exact ⟨0, [], by omega, rfl, Ext.refl _, LRow.nil _ _ _, rfl⟩
  case round =>
    obtain ⟨k, R', hk', rfl, hb, ho, HR⟩ := hrel
    by_cases hlt : k < R.length
    · obtain ⟨bb, off, rfl, hSR⟩ := hx.sr hlt
      have hlab := hx.lab hlt
      have hkl := hk _ (slAt_mem hlt)
      have hst : (R.take (k + 1)).map stripV = (R.take k).map stripV ++ [stripV (slAt R k)] := by rw [take_slot hlt, List.map_append]; rfl
      have hst2 := HR.out
      have CL := fun (U : World) (h : Ext w U) => krefl_w _ _ U hkl (hlab.ext h)
      generalize slAt R k = r at *
      obtain ⟨node, fr, lv, ls⟩ := r
      simp only at hSR hlab hkl CL
      obtain ⟨ql, cl, rfl, _, _⟩ := hlab.shape
      obtain ⟨hbl, c0, c1, c2, c3, c4, c5⟩ := id hSR
      replace hst := Lib.hid hst
      replace hst2 := Lib.hid hst2
      replace CL := Lib.hid CL
      go_wp2_with fail
      try simp only [Act.put, List.setIfInBounds_toArray, List.set_cons_succ, List.set_cons_zero]
      refine Dm.wp_region_ext 22 (Dm.bits 22 0) hb (by kernel_rfl) (by kernel_rfl) (by kernel_rfl) ?_
      refine Dm.wpE_take (i := 0) (listed' := (Dm.bits 22 1)) (by kernel_rfl) (by kernel_rfl) rfl (fun _ _ _ _ h => h) ?_; apply Exists.intro; refine And.intro (fun x => ?_) ?_
      · go_big_quiet_step (((go_at_call 14; exact Calls.quietE (CV.out fr _)))); exact wpQuiet_nil rfl
      refine Dm.wpE_take (i := 1) (listed' := (Dm.bits 22 3)) (by kernel_rfl) (by kernel_rfl) rfl (fun _ _ _ _ h => h) ?_; apply Exists.intro; refine And.intro (fun x => ?_) ?_
      · go_big_quiet_step (((go_at_call 14; exact Calls.quietE (CV.out fr _)))); exact wpQuiet_nil rfl
      refine Dm.wpE_take (i := 2) (listed' := (Dm.bits 22 7)) (by kernel_rfl) (by kernel_rfl) rfl (fun _ _ _ _ h => h) ?_; apply Exists.intro; refine And.intro (fun x => ?_) ?_
      · go_big_quiet_step (((go_at_call 14; exact Calls.quietE (CV.out fr _)))); exact wpQuiet_nil rfl
      refine Dm.wpE_take (i := 3) (listed' := (Dm.bits 22 15)) (by kernel_rfl) (by kernel_rfl) rfl (fun _ _ _ _ h => h) ?_; apply Exists.intro; refine And.intro (fun x => ?_) ?_
      · go_big_quiet_step (((go_at_call 14; exact Calls.quietE (CV.out fr _)))); exact wpQuiet_nil rfl
      refine Dm.wpE_take (i := 4) (listed' := (Dm.bits 22 31)) (by kernel_rfl) (by kernel_rfl) rfl (fun _ _ _ _ h => h) ?_; apply Exists.intro; refine And.intro (fun x => ?_) ?_
      · go_big_quiet_step (((go_at_call 14; exact Calls.quietE (CV.out fr _)))); exact wpQuiet_nil rfl
      refine Dm.wpE_take (i := 5) (listed' := (Dm.bits 22 63)) (by kernel_rfl) (by kernel_rfl) rfl (fun _ _ _ _ h => h) ?_; apply Exists.intro; refine And.intro (fun x => ?_) ?_
      · go_big_quiet_step (((go_at_call 14; exact Calls.quietE (CV.out fr _)))); exact wpQuiet_nil rfl
      refine Dm.wpE_take (i := 6) (listed' := (Dm.bits 22 127)) (by kernel_rfl) (by kernel_rfl) rfl (fun _ _ _ _ h => h) ?_; apply Exists.intro; refine And.intro (fun x => ?_) ?_
      · go_big_quiet_step (((go_at_call 14; exact Calls.quietE (CV.out fr _)))); exact wpQuiet_nil rfl
      refine Dm.wpE_take (i := 7) (listed' := (Dm.bits 22 255)) (by kernel_rfl) (by kernel_rfl) rfl (fun _ _ _ _ h => h) ?_; apply Exists.intro; refine And.intro (fun x => ?_) ?_
      · go_big_quiet_step (((go_at_call 14; exact Calls.quietE (CV.out fr _)))); exact wpQuiet_nil rfl
      refine Dm.wpE_take (i := 8) (listed' := (Dm.bits 22 511)) (by kernel_rfl) (by kernel_rfl) rfl (fun _ _ _ _ h => h) ?_; apply Exists.intro; refine And.intro (fun x => ?_) ?_
      · go_big_quiet_step (((go_at_call 14; exact Calls.quietE (CV.out fr _)))); exact wpQuiet_nil rfl
      refine Dm.wpE_take (i := 9) (listed' := (Dm.bits 22 1023)) (by kernel_rfl) (by kernel_rfl) rfl (fun _ _ _ _ h => h) ?_; apply Exists.intro; refine And.intro (fun x => ?_) ?_
      · go_big_quiet_step (((go_at_call 14; exact Calls.quietE (CV.out fr _)))); exact wpQuiet_nil rfl
      refine Dm.wpE_take (i := 10) (listed' := (Dm.bits 22 2047)) (by kernel_rfl) (by kernel_rfl) rfl (fun _ _ _ _ h => h) ?_; apply Exists.intro; refine And.intro (fun x => ?_) ?_
      · go_big_quiet_step (((go_at_call 14; exact Calls.quietE (CV.out fr _)))); exact wpQuiet_nil rfl
      refine Dm.wpE_take (i := 11) (listed' := (Dm.bits 22 4095)) (by kernel_rfl) (by kernel_rfl) rfl (fun _ _ _ _ h => h) ?_; apply Exists.intro; refine And.intro (fun x => ?_) ?_
      · go_big_quiet_step (((go_at_call 14; exact Calls.quietE (CV.out fr _)))); exact wpQuiet_nil rfl
      refine Dm.wpE_take (i := 12) (listed' := (Dm.bits 22 8191)) (by kernel_rfl) (by kernel_rfl) rfl (fun _ _ _ _ h => h) ?_; apply Exists.intro; refine And.intro (fun x => ?_) ?_
      · go_big_quiet_step (((go_at_call 14; exact Calls.quietE (CV.out fr _)))); exact wpQuiet_nil rfl
      refine Dm.wpE_take (i := 13) (listed' := (Dm.bits 22 16383)) (by kernel_rfl) (by kernel_rfl) rfl (fun _ _ _ _ h => h) ?_; apply Exists.intro; refine And.intro (fun x => ?_) ?_
      · go_big_quiet_step (((go_at_call 14; exact Calls.quietE (CV.out fr _)))); exact wpQuiet_nil rfl
      refine Dm.wpE_take (i := 14) (listed' := (Dm.bits 22 32767)) (by kernel_rfl) (by kernel_rfl) rfl (fun _ _ _ _ h => h) ?_; apply Exists.intro; refine And.intro (fun x => ?_) ?_
      · go_big_quiet_step (((go_at_call 14; exact Calls.quietE (CV.out fr _)))); exact wpQuiet_nil rfl
      refine Dm.wpE_take (i := 15) (listed' := (Dm.bits 22 65535)) (by kernel_rfl) (by kernel_rfl) rfl (fun _ _ _ _ h => h) ?_; apply Exists.intro; refine And.intro (fun x => ?_) ?_
      · go_big_quiet_step (((go_at_call 14; exact Calls.quietE (CV.out fr _)))); exact wpQuiet_nil rfl
      refine Dm.wpE_take (i := 16) (listed' := (Dm.bits 22 131071)) (by kernel_rfl) (by kernel_rfl) rfl (fun _ _ _ _ h => h) ?_; apply Exists.intro; refine And.intro (fun x => ?_) ?_
      · go_big_quiet_step (((go_at_call 14; exact Calls.quietE (CV.out fr _)))); exact wpQuiet_nil rfl
      refine Dm.wpE_one (i := 17) (listed' := (Dm.bits 22 262143)) (by kernel_rfl) (by kernel_rfl) rfl hb (fun w1a hx1a => ?_)
      have hX1a := Ext.trans hb hx1a
      have hoa := ho.ext hx1a
      go_wp2_with (go_at_call 26; go_must (refine (CL.out w1a hX1a).mono ?_; rintro e w1b ⟨rv, rfl, hp, hpf, hs1⟩))
      have hapn : Apart rv u3 := fun b hb1 hb2 => by have h1 := (hoa.lt hb2).2; have h2 := hpf b hb1; omega
      obtain ⟨pn, cn, rfl, _, _⟩ := hp.shape
      replace hoa := hoa.ext hs1
      have hX1b := Ext.trans hX1a hs1
      try simp only [Exit.then, Act.put, List.setIfInBounds_toArray, List.set_cons_succ, List.set_cons_zero]
      refine Dm.wpE_take (i := 18) (listed' := (Dm.bits 22 524287)) (by kernel_rfl) (by kernel_rfl) rfl (fun _ _ _ _ h => h) ?_; apply Exists.intro; refine And.intro (fun x => ?_) ?_
      · go_big_quiet_step (((go_at_call 14; exact Calls.quietE (CV.out fr _)))); exact wpQuiet_nil rfl
      refine Dm.wpE_one (i := 19) (listed' := (Dm.bits 22 1048575)) (by kernel_rfl) (by kernel_rfl) rfl hX1b (fun w2a hx2a => ?_)
      have hX2a := Ext.trans hX1b hx2a
      replace hp := hp.ext hx2a
      replace hoa := hoa.ext hx2a
      go_wp2_with fail
      have hl := Sl.lit w2a 66 6 1 #[.string node, .int .u64 (vG fr 0 : Nat), .int .u64 (vG fr 1 : Nat), .int .u64 (vG fr 2 : Nat), .int .u64 (vG fr 3 : Nat), .slice pn ls.length cn] rfl (by simp [maxLen])
      have hs2 := (Ext.refl w2a).alloc (.cells #[.string node, .int .u64 (vG fr 0 : Nat), .int .u64 (vG fr 1 : Nat), .int .u64 (vG fr 2 : Nat), .int .u64 (vG fr 3 : Nat), .slice pn ls.length cn] 66)
      have hp := Pairs.ext hp hs2
      generalize w2a.alloc (.cells #[.string node, .int .u64 (vG fr 0 : Nat), .int .u64 (vG fr 1 : Nat), .int .u64 (vG fr 2 : Nat), .int .u64 (vG fr 3 : Nat), .slice pn ls.length cn] 66) = w2b at *
      have hX2b := Ext.trans hX2a hs2
      replace hoa := hoa.ext hs2
      try simp only [Exit.then, Act.put, List.setIfInBounds_toArray, List.set_cons_succ, List.set_cons_zero]
      refine Dm.wpE_one (i := 20) (listed' := (Dm.bits 22 2097151)) (by kernel_rfl) (by kernel_rfl) rfl hX2b (fun w3a hx3a => ?_)
      have hX3a := Ext.trans hX2b hx3a
      replace hl := hl.ext hx3a
      replace hp := hp.ext hx3a
      replace hoa := hoa.ext hx3a
      refine wpList_appO rfl _ _ Try.slSlotR rfl hX3a.size rfl hoa.row rfl hl (by omega) (by simp [Value.oneCell']) (by omega) ?_
      intro v2 w3b ho3 hg3 hor3
      have hX3b := hX3a.app hoa.row hg3 (Nat.le_refl _)
      replace ho3 := hoa.app (r := (node, fr, .slice pn ls.length cn, ls)) ho3 hg3 hor3 hp hapn
      refine wpList_nil ?_
      try simp only [Exit.then, Act.put, List.setIfInBounds_toArray, List.set_cons_succ, List.set_cons_zero]
      refine Dm.wpE_take (i := 21) (listed' := (Dm.bits 22 4194303)) (by kernel_rfl) (by kernel_rfl) rfl (fun _ _ _ _ h => h) ?_; apply Exists.intro; refine And.intro (fun x => ?_) ?_
      · go_big_quiet_step (((go_at_call 14; exact Calls.quietE (CV.out fr _)))); exact wpQuiet_nil rfl
      refine Dm.wpE_done (by kernel_rfl) hX3b (fun w4a hx4a => ?_)
      have hX4a := Ext.trans hX3b hx4a
      replace ho3 := ho3.ext hx4a
      go_wp2
      go_roundw
      case rel => exact ⟨k + 1, _, by omega, by go_num, hX4a, ho3, by show _ = _; rw [hst.out, List.map_append, hst2.out]; rfl⟩
      case measure => simp [intOf]; omega
    · obtain rfl : k = R.length := by omega
      have hR := HR.out
      rw [List.take_length] at hR
      have hRl : R'.length = R.length := by have := congrArg List.length hR; simpa using this
      have hSl := Slots.of_row ho.row hRl.symm (fun r hr => (ho.labs r hr).1) (fun r hr => by
        have h1 : stripV r ∈ R'.map stripV := List.mem_map_of_mem hr
        rw [hR] at h1
        obtain ⟨s, hs, he⟩ := List.mem_map.1 h1
        have : r.2.1 = s.2.1 := by
          have := congrArg (fun x : SlotR => x.2.1) he
          exact this.symm
        rw [this]
        exact hx.okv s hs)
      replace hR := Lib.hid hR
      clear HR
      go_wp2
      go_ret
      exact ⟨_, R', rfl, hSl, hR.out, hb⟩

end Go.Proofs.Ytibimbcjnjefdaa

namespace Go.Dm
open Go Go.RowKit
def atJ : Option (Nat × Vc) → Int | none => -1 | some (i, _) => i
end Go.Dm
namespace Go.Proofs.Ytibimbcjnjefdaa
open Go.RowKit Go.Dm

set_option maxHeartbeats 4000000 in
set_option maxRecDepth 100000 in
theorem rbest_w (R : List SlotR) (T : List RowS) (d : Vc) (v vx : Value) (w : World) (hm : R.length ≤ 35184372088832) (hk : FitK R) (hx : Slots w v R) (hT : T.length ≤ 35184372088832) (hf : FitR T) (ht : Terms w vx T) (hd : OkV d) :
    Calls Try.prog 24 #[v, vx, vVal d] w fun e w' => e = .returned (.int .i64 (atJ (bestS (letR T) d R))) ∧ Ext w w' := by
  obtain ⟨p, cap, rfl, _, _⟩ := hx.shape
  obtain ⟨q, cap2, rfl, _, _⟩ := ht.shape
  have CM := fun (w1 : World) (h : Ext w w1) (lv : Value) (l : List PairS) (hl : l.length ≤ 35184372088832) (hp : Pairs w1 lv l) => smmatch_w T l (.slice q T.length cap2) lv w1 (by omega) hf (ht.ext h) hl hp
  have hVs := fun (a : Vc) (ha : OkV a) w => r03sub_w a d ha hd w
  unfold vVal at hVs ⊢
  replace CM := Lib.hid CM
  go_enter Try.func24, Try.ntmps24
  unfold vF
  go_wp2
  go_loopw [7, 9] (fun t i wr => ∃ (k : Nat) (s : Option (Nat × Vc)), k ≤ R.length ∧ i = .int .i64 k ∧ t = .int .i64 (atJ s) ∧ Ext w wr ∧ VBox w.heap.size (vG d) wr ∧ VBox (w.heap.size + 1) (vG (bV s)) wr ∧ OkV (bV s) ∧ Hid (bestF (letR T) d R k = s)) (fun _ i _ => R.length - (intOf i).toNat)
  case atStart =>
    refine ⟨0, none, by omega, rfl, rfl, ((Ext.refl w).alloc _).alloc _, (VBox.new w (vG d) _).ext ((Ext.refl _).alloc _), ?_, okV_no, rfl⟩
    have h := VBox.new (w.alloc (.cells #[.int .u64 (vG d 0 : Nat), .int .u64 (vG d 1 : Nat), .int .u64 (vG d 2 : Nat), .int .u64 (vG d 3 : Nat)] 36)) (vG noV) 36
    rw [World.size_alloc] at h
    exact h
  case round =>
    obtain ⟨k, s, hk', rfl, rfl, hb, v3, v5, hOs, HBs⟩ := hrel
    by_cases hlt : k < R.length
    · obtain ⟨b, off, rfl, hSR⟩ := (hx.ext hb).sr hlt
      have hR := hSR.vr
      have hok := hx.ok hlt
      have hstep : bestF (letR T) d R (k + 1) = bestStep (letR T) d (bestF (letR T) d R k) k (slAt R k) := rfl
      rw [HBs.out] at hstep
      unfold bestStep at hstep
      have CS := hVs (slAt R k).2.1 hok
      have hlab := (hx.ext hb).lab hlt
      have hkl : (slAt R k).2.2.2.length ≤ 35184372088832 := hk _ (slAt_mem hlt)
      obtain ⟨pq, pc, hpe, _, _⟩ := hlab.shape
      have CMk := fun (U : World) (h : Ext wr U) => CM.out U (hb.trans h) _ _ hkl (hlab.ext h)
      have hcf : matchS (T.map rowT) (slAt R k).2.2.2 = letR T (slAt R k) := rfl
      simp only [hcf] at CMk
      generalize letR T (slAt R k) = cm at *
      have hVo : OkV (vOr (vfits d (slAt R k).2.1) (vsub (slAt R k).2.1 d)) := by
        cases vfits d (slAt R k).2.1 with
        | false => exact okV_no
        | true => exact vsub_ok hok
      have hVt : vfits d (slAt R k).2.1 = true → vOr (vfits d (slAt R k).2.1) (vsub (slAt R k).2.1 d) = vsub (slAt R k).2.1 d := fun h => by rw [h]; rfl
      generalize (slAt R k).2.1 = fr at *
      generalize (slAt R k).2.2.1 = lv at *
      generalize (slAt R k).2.2.2 = ls at *
      generalize (slAt R k).1 = node at *
      subst hpe
      generalize vOr (vfits d fr) (vsub fr d) = V at *
      generalize vsub fr d = V' at *
      generalize vfits d fr = c at *
      have HI : VR b (off + k * 6) (vG fr) wr ∧ V4 w.heap.size (vG d) wr := ⟨hR, v3.four⟩
      unfold vF at CS
      replace CS := Lib.hid CS
      replace hstep := Lib.hid hstep
      replace hVt := Lib.hid hVt
      replace CMk := Lib.hid CMk
      go_wp2_with fail
      try simp only [Act.put, List.setIfInBounds_toArray, List.set_cons_succ, List.set_cons_zero]
      refine Dm.wp_region_fin (I := (fun U => VR b (off + k * 6) (vG fr) U ∧ V4 w.heap.size (vG d) U)) (z := 12) 13 (Dm.bits 13 0) (by kernel_rfl) (by kernel_rfl) (by kernel_rfl) ?_
      refine Dm.wpF_take (i := 0) (listed' := (Dm.bits 13 1)) (fun _ _ h hx => ⟨h.1.ext hx, V4.ext h.2 hx⟩) HI (by kernel_rfl) (by kernel_rfl) rfl (fun _ _ _ _ h => h) ?_; apply Exists.intro; refine And.intro (fun wq hwq => ?_) ?_
      · obtain ⟨⟨_, a0, a1, a2, a3⟩, ⟨_, b0, b1, b2, b3, _, _, _, _⟩⟩ := hwq; go_big_quiet_step (((go_at_call 25; exact Calls.quietE (CS.out _)))); exact wpQuiet_nil rfl
      refine Dm.wpF_take (i := 1) (listed' := (Dm.bits 13 3)) (fun _ _ h hx => ⟨h.1.ext hx, V4.ext h.2 hx⟩) HI (by kernel_rfl) (by kernel_rfl) rfl (fun _ _ _ _ h => h) ?_; apply Exists.intro; refine And.intro (fun wq hwq => ?_) ?_
      · obtain ⟨⟨_, a0, a1, a2, a3⟩, ⟨_, b0, b1, b2, b3, _, _, _, _⟩⟩ := hwq; go_big_quiet_step (((go_at_call 25; exact Calls.quietE (CS.out _)))); exact wpQuiet_nil rfl
      refine Dm.wpF_take (i := 2) (listed' := (Dm.bits 13 7)) (fun _ _ h hx => ⟨h.1.ext hx, V4.ext h.2 hx⟩) HI (by kernel_rfl) (by kernel_rfl) rfl (fun _ _ _ _ h => h) ?_; apply Exists.intro; refine And.intro (fun wq hwq => ?_) ?_
      · obtain ⟨⟨_, a0, a1, a2, a3⟩, ⟨_, b0, b1, b2, b3, _, _, _, _⟩⟩ := hwq; go_big_quiet_step (((go_at_call 25; exact Calls.quietE (CS.out _)))); exact wpQuiet_nil rfl
      refine Dm.wpF_take (i := 3) (listed' := (Dm.bits 13 15)) (fun _ _ h hx => ⟨h.1.ext hx, V4.ext h.2 hx⟩) HI (by kernel_rfl) (by kernel_rfl) rfl (fun _ _ _ _ h => h) ?_; apply Exists.intro; refine And.intro (fun wq hwq => ?_) ?_
      · obtain ⟨⟨_, a0, a1, a2, a3⟩, ⟨_, b0, b1, b2, b3, _, _, _, _⟩⟩ := hwq; go_big_quiet_step (((go_at_call 25; exact Calls.quietE (CS.out _)))); exact wpQuiet_nil rfl
      refine Dm.wpF_take (i := 4) (listed' := (Dm.bits 13 31)) (fun _ _ h hx => ⟨h.1.ext hx, V4.ext h.2 hx⟩) HI (by kernel_rfl) (by kernel_rfl) rfl (fun _ _ _ _ h => h) ?_; apply Exists.intro; refine And.intro (fun wq hwq => ?_) ?_
      · obtain ⟨⟨_, a0, a1, a2, a3⟩, ⟨_, b0, b1, b2, b3, _, _, _, _⟩⟩ := hwq; go_big_quiet_step (((go_at_call 25; exact Calls.quietE (CS.out _)))); exact wpQuiet_nil rfl
      refine Dm.wpF_take (i := 5) (listed' := (Dm.bits 13 63)) (fun _ _ h hx => ⟨h.1.ext hx, V4.ext h.2 hx⟩) HI (by kernel_rfl) (by kernel_rfl) rfl (fun _ _ _ _ h => h) ?_; apply Exists.intro; refine And.intro (fun wq hwq => ?_) ?_
      · obtain ⟨⟨_, a0, a1, a2, a3⟩, ⟨_, b0, b1, b2, b3, _, _, _, _⟩⟩ := hwq; go_big_quiet_step (((go_at_call 25; exact Calls.quietE (CS.out _)))); exact wpQuiet_nil rfl
      refine Dm.wpF_take (i := 6) (listed' := (Dm.bits 13 127)) (fun _ _ h hx => ⟨h.1.ext hx, V4.ext h.2 hx⟩) HI (by kernel_rfl) (by kernel_rfl) rfl (fun _ _ _ _ h => h) ?_; apply Exists.intro; refine And.intro (fun wq hwq => ?_) ?_
      · obtain ⟨⟨_, a0, a1, a2, a3⟩, ⟨_, b0, b1, b2, b3, _, _, _, _⟩⟩ := hwq; go_big_quiet_step (((go_at_call 25; exact Calls.quietE (CS.out _)))); exact wpQuiet_nil rfl
      refine Dm.wpF_take (i := 7) (listed' := (Dm.bits 13 255)) (fun _ _ h hx => ⟨h.1.ext hx, V4.ext h.2 hx⟩) HI (by kernel_rfl) (by kernel_rfl) rfl (fun _ _ _ _ h => h) ?_; apply Exists.intro; refine And.intro (fun wq hwq => ?_) ?_
      · obtain ⟨⟨_, a0, a1, a2, a3⟩, ⟨_, b0, b1, b2, b3, _, _, _, _⟩⟩ := hwq; go_big_quiet_step (((go_at_call 25; exact Calls.quietE (CS.out _)))); exact wpQuiet_nil rfl
      refine Dm.wpF_take (i := 8) (listed' := (Dm.bits 13 511)) (fun _ _ h hx => ⟨h.1.ext hx, V4.ext h.2 hx⟩) HI (by kernel_rfl) (by kernel_rfl) rfl (fun _ _ _ _ h => h) ?_; apply Exists.intro; refine And.intro (fun wq hwq => ?_) ?_
      · obtain ⟨⟨_, a0, a1, a2, a3⟩, ⟨_, b0, b1, b2, b3, _, _, _, _⟩⟩ := hwq; go_big_quiet_step (((go_at_call 25; exact Calls.quietE (CS.out _)))); exact wpQuiet_nil rfl
      refine Dm.wpF_take (i := 9) (listed' := (Dm.bits 13 1023)) (fun _ _ h hx => ⟨h.1.ext hx, V4.ext h.2 hx⟩) HI (by kernel_rfl) (by kernel_rfl) rfl (fun _ _ _ _ h => h) ?_; apply Exists.intro; refine And.intro (fun wq hwq => ?_) ?_
      · obtain ⟨⟨_, a0, a1, a2, a3⟩, ⟨_, b0, b1, b2, b3, _, _, _, _⟩⟩ := hwq; go_big_quiet_step (((go_at_call 25; exact Calls.quietE (CS.out _)))); exact wpQuiet_nil rfl
      refine Dm.wpF_one (i := 10) (listed' := (Dm.bits 13 2047)) (by kernel_rfl) (by kernel_rfl) rfl (fun wm10 hxm10 => ?_)
      have ha := hxm10.trans ((Ext.refl wm10).alloc (.cells #[.int .u64 (0 : Nat), .int .u64 (0 : Nat), .int .u64 (0 : Nat), .int .u64 (0 : Nat)] 36))
      have v8 := VBox.new wm10 (fun _ => 0) 36
      have hz8 : w.heap.size + 2 ≤ wm10.heap.size ∧ b < wm10.heap.size ∧ wr.heap.size ≤ wm10.heap.size := by have := v5.lt; have := hR.lt; have := hxm10.size; omega
      have HIa : VR b (off + k * 6) (vG fr) (wm10.alloc (.cells #[.int .u64 (0 : Nat), .int .u64 (0 : Nat), .int .u64 (0 : Nat), .int .u64 (0 : Nat)] 36)) ∧ V4 w.heap.size (vG d) (wm10.alloc (.cells #[.int .u64 (0 : Nat), .int .u64 (0 : Nat), .int .u64 (0 : Nat), .int .u64 (0 : Nat)] 36)) := ⟨hR.ext ha, v3.four.ext ha⟩
      go_wp2_with fail
      generalize wm10.heap.size = B8 at *
      generalize wm10.alloc (.cells #[.int .u64 (0 : Nat), .int .u64 (0 : Nat), .int .u64 (0 : Nat), .int .u64 (0 : Nat)] 36) = w6 at *
      refine ⟨(by first | exact HIa | exact fun _ => HIa), ?_⟩
      replace HI := HIa
      try simp only [Act.put, List.setIfInBounds_toArray, List.set_cons_succ, List.set_cons_zero]
      refine Dm.wpF_one (i := 11) (listed' := (Dm.bits 13 4095)) (by kernel_rfl) (by kernel_rfl) rfl (fun wm11 hxm11 => ?_)
      have v8b := (v8.ext hxm11).put (vG V)
      have v5b := (v5.ext (ha.trans hxm11)).put_far (c := B8) (by omega) (vG V)
      have v3b := (v3.ext (ha.trans hxm11)).put_far (c := B8) (by omega) (vG V)
      have hww : Ext wr (put4 wm11 B8 (vG V)) := (ha.trans hxm11).put4 (b := B8) (by omega) (vG V)
      have HIb : VR b (off + k * 6) (vG fr) (put4 wm11 B8 (vG V)) ∧ V4 w.heap.size (vG d) (put4 wm11 B8 (vG V)) := ⟨(hR.ext (ha.trans hxm11)).far_put (by omega) (vG V), v3b.four⟩
      obtain ⟨_, z0, z1, z2, z3, y0, y1, y2, y3⟩ := (v8.ext hxm11).four
      go_wp2_with fail
      clear z0 z1 z2 z3 y0 y1 y2 y3
      change (_ → VR b (off + k * 6) (vG fr) (put4 wm11 B8 (vG V)) ∧ V4 w.heap.size (vG d) (put4 wm11 B8 (vG V))) ∧ wpF _ _ _ _ _ _ _ _ _ (put4 wm11 B8 (vG V))
      generalize put4 wm11 B8 (vG V) = w7 at *
      refine ⟨(by first | exact HIb | exact fun _ => HIb), ?_⟩
      replace HI := HIb
      try simp only [Act.put, List.setIfInBounds_toArray, List.set_cons_succ, List.set_cons_zero]
      refine Dm.wpF_one (i := 12) (listed' := (Dm.bits 13 8191)) (by kernel_rfl) (by kernel_rfl) rfl (fun wz hxz => ?_)
      skip
      go_wp2_with fail
      first | refine ⟨fun h => absurd rfl h, ?_⟩ | skip
      refine Dm.wpF_done (by kernel_rfl) (fun wy hxy => ?_)
      have hwy := hww.trans (hxz.trans hxy)
      have hby := hb.trans hwy
      have v3y := v3b.ext (hxz.trans hxy)
      have v5y := v5b.ext (hxz.trans hxy)
      have v8y := v8b.ext (hxz.trans hxy)
      clear HI HIb hww v3b v5b v8b v8 HIa ha hxz hxy hR CS
      cases c with
      | false =>
        have hst2 : Hid (bestF (letR T) d R (k + 1) = s) := by
          show _ = _
          rw [hstep.out]; simp
        clear hstep CMk
        go_wp2
        go_roundw
        case rel => exact ⟨k + 1, s, by omega, by go_num, rfl, hby, v3y, v5y, hOs, hst2⟩
        case measure => simp [intOf]; omega
      | true =>
        have hVV := hVt.out rfl
        subst hVV
        clear hVt
        have hSRy := hSR.ext hwy
        obtain ⟨_, c0, c1, c2, c3, c4, c5⟩ := id hSRy
        go_wp2_with fail
        refine (CMk.out wy hwy).mono ?_; rintro e w8 ⟨rfl, h8⟩
        clear c0 c1 c2 c3 c4 c5 CMk
        replace hby := hby.trans h8
        replace v3y := v3y.ext h8
        replace v5y := v5y.ext h8
        replace v8y := v8y.ext h8
        clear h8 hSRy
        cases cm with
        | false =>
          have hst2 : Hid (bestF (letR T) d R (k + 1) = s) := by
            show _ = _
            rw [hstep.out]; simp
          clear hstep
          go_wp2
          go_roundw
          case rel => exact ⟨k + 1, s, by omega, by go_num, rfl, hby, v3y, v5y, hOs, hst2⟩
          case measure => simp [intOf]; omega
        | true =>
          obtain ⟨_, z0, z1, z2, z3, _, _, _, _⟩ := v8y.four
          cases s with
          | none =>
            have hst2 : Hid (bestF (letR T) d R (k + 1) = some (k, V)) := by
              show _ = _
              rw [hstep.out]; rfl
            have hat : atJ none = -1 := rfl
            obtain ⟨_, y0, y1, y2, y3, e0, e1, e2, e3⟩ := v5y.four
            clear hstep
            have v5p := v5y.put (vG V)
            have v3p := v3y.put_far (c := w.heap.size + 1) (by omega) (vG V)
            have hbp := hby.put4 (b := w.heap.size + 1) (Nat.le_succ _) (vG V)
            go_wp2
            go_roundw
            case rel => exact ⟨k + 1, some (k, V), by omega, by go_num, rfl, hbp, v3p, v5p, hVo, hst2⟩
            case measure => simp [intOf]; omega
          | some qq =>
            obtain ⟨j, qv⟩ := qq
            have hat : atJ (some (j, qv)) = (j : Int) := rfl
            have hst3 := hstep.out
            rw [if_pos (by rfl)] at hst3
            simp only at hst3
            have CO := r03order_w V (bV (some (j, qv))) hVo hOs w8
            rw [show vord V (bV (some (j, qv))) = vord V qv from rfl] at CO
            unfold vVal vF at CO
            obtain ⟨_, y0, y1, y2, y3, _, _, _, _⟩ := v5y.four
            clear hstep
            by_cases hneg : vord V qv < 0
            · rw [if_pos hneg] at hst3
              have hst2 := Lib.hid hst3
              generalize vord V qv = o at CO hneg
              clear hst3
              go_wp2_with fail
              refine CO.mono ?_; rintro e w9 ⟨rfl, h9⟩
              clear z0 z1 z2 z3 y0 y1 y2 y3 CO
              obtain ⟨_, z0, z1, z2, z3, _, _, _, _⟩ := (v8y.ext h9).four
              obtain ⟨_, y0, y1, y2, y3, e0, e1, e2, e3⟩ := (v5y.ext h9).four
              have v5p := (v5y.ext h9).put (vG V)
              have v3p := (v3y.ext h9).put_far (c := w.heap.size + 1) (by omega) (vG V)
              have hbp := (hby.trans h9).put4 (b := w.heap.size + 1) (Nat.le_succ _) (vG V)
              go_wp2
              go_roundw
              case rel => exact ⟨k + 1, some (k, V), by omega, by go_num, rfl, hbp, v3p, v5p, hVo, hst2⟩
              case measure => simp [intOf]; omega
            · rw [if_neg hneg] at hst3
              have hst2 := Lib.hid hst3
              generalize vord V qv = o at CO hneg
              clear hst3
              go_wp2_with fail
              refine CO.mono ?_; rintro e w9 ⟨rfl, h9⟩
              clear z0 z1 z2 z3 y0 y1 y2 y3 CO
              go_wp2
              go_roundw
              case rel => exact ⟨k + 1, some (j, qv), by omega, by go_num, rfl, hby.trans h9, v3y.ext h9, v5y.ext h9, hOs, hst2⟩
              case measure => simp [intOf]; omega
    · obtain rfl : k = R.length := by omega
      have hS : bestS (letR T) d R = s := HBs.out
      replace hS := Lib.hid hS
      clear HBs hVs
      go_wp2
      go_ret
      exact ⟨by rw [hS.out]; rfl, hb⟩

end Go.Proofs.Ytibimbcjnjefdaa

namespace Go.Proofs.Ytibimbcjnjefdaa
open Go.RowKit Go.Dm

set_option maxHeartbeats 4000000 in
set_option maxRecDepth 100000 in
theorem rroom_w (R : List SlotR) (T : List RowS) (d : Vc) (m : Int) (M : Nat) (hM : M ≤ 9223372036854775807) (hmM : m = M ∨ (m < 0 ∧ M = 0)) (v vx : Value) (w : World) (hm : R.length ≤ 35184372088832) (hk : FitK R) (hx : Slots w v R) (hT : T.length ≤ 35184372088832) (hf : FitR T) (ht : Terms w vx T) (hd : OkV d) :
    Calls Try.prog 17 #[v, vx, vVal d, .int .i64 m] w fun e w' => e = .returned (.int .i64 (roomS (letR T) d M R : Nat)) ∧ Ext w w' := by
  obtain ⟨p, cap, rfl, _, _⟩ := hx.shape
  obtain ⟨q, cap2, rfl, _, _⟩ := ht.shape
  have CM := fun (w1 : World) (h : Ext w w1) (lv : Value) (l : List PairS) (hl : l.length ≤ 35184372088832) (hp : Pairs w1 lv l) => smmatch_w T l (.slice q T.length cap2) lv w1 (by omega) hf (ht.ext h) hl hp
  have hHo : ∀ (a : Vc), OkV a → ∀ w1, Calls Try.prog 28 #[vVal a, vVal d, .int .i64 (M : Int)] w1 fun e w' => e = .returned (.int .i64 (vholds a d M : Nat)) ∧ Ext w1 w' := fun a ha w1 => r03holds_w a d ha hd M M hM (Or.inl rfl) w1
  have hnE : roomS (letR T) d M R = min M (roomF (letR T) d M (R.take R.length)) := by rw [List.take_length]; rfl
  rw [hnE]
  have hn0 : min M (roomF (letR T) d M (R.take 0)) = 0 := by simp [roomF]
  have hnS : ∀ k, k < R.length → vholds (slAt R k).2.1 d M ≤ M ∧ min M (roomF (letR T) d M (R.take (k + 1))) = if letR T (slAt R k) then min M (roomF (letR T) d M (R.take k)) + min (vholds (slAt R k).2.1 d M) (M - min M (roomF (letR T) d M (R.take k))) else min M (roomF (letR T) d M (R.take k)) := fun k h => by
    have := vholds_le (slAt R k).2.1 d M
    refine ⟨this, ?_⟩
    rw [roomF_take h]
    split <;> omega
  have hnL : ∀ k, min M (roomF (letR T) d M (R.take k)) ≤ M := fun k => Nat.min_le_left _ _
  clear hnE
  obtain ⟨nn, hnn⟩ : ∃ nn : Nat → Nat, nn = fun k => min M (roomF (letR T) d M (R.take k)) := ⟨_, rfl⟩
  have hnn' : ∀ k, min M (roomF (letR T) d M (R.take k)) = nn k := fun k => by rw [hnn]
  simp only [hnn'] at hn0 hnS hnL ⊢
  clear hnn hnn'
  have hB0 := VBox.new w (vG d) 36
  unfold vVal vF at hHo ⊢
  replace CM := Lib.hid CM
  replace hn0 := Lib.hid hn0
  replace hnS := Lib.hid hnS
  rcases hmM with hmM | ⟨hneg, hM0⟩
  · subst hmM
    go_enter Try.func17, Try.ntmps17
    go_wp2
    go_loopw [9, 10] (fun t i wr => ∃ k : Nat, k ≤ R.length ∧ i = .int .i64 k ∧ t = .int .i64 (nn k : Nat) ∧ Ext w wr ∧ VBox w.heap.size (vG d) wr) (fun _ i _ => R.length - (intOf i).toNat)
    case atStart => exact ⟨0, by omega, rfl, by rw [hn0.out]; rfl, (Ext.refl _).alloc _, hB0⟩
    case round =>
      obtain ⟨k, hk', rfl, rfl, hb, v6⟩ := hrel
      by_cases hlt : k < R.length
      · obtain ⟨b, off, rfl, HR⟩ := (hx.ext hb).sr hlt
        have CH := hHo _ (hx.ok hlt)
        obtain ⟨hh, hs⟩ := hnS.out k hlt
        have hnk := hnL k
        have hlab := (hx.ext hb).lab hlt
        obtain ⟨pq, pc, hpe, _, _⟩ := hlab.shape
        have hkl : (slAt R k).2.2.2.length ≤ 35184372088832 := hk _ (slAt_mem hlt)
        have CMk := CM.out wr hb _ _ hkl hlab
        change Calls _ _ _ _ fun e w' => e = .returned (.bool (letR T (slAt R k))) ∧ Ext wr w' at CMk
        generalize letR T (slAt R k) = c at CMk hs
        generalize slAt R k = r at *
        obtain ⟨node, vv, lv, ls⟩ := r
        simp only at CH hh hs HR hpe hkl hlab CMk
        subst hpe
        generalize vholds vv d M = h at CH hh hs
        replace CH := Lib.hid CH
        replace hs := Lib.hid hs
        obtain ⟨_, c0, c1, c2, c3, c4, c5⟩ := id HR
        go_wp2_with fail
        refine CMk.mono ?_; rintro e w2 ⟨rfl, h2⟩
        replace HR := HR.ext h2
        clear c0 c1 c2 c3 c4 c5 CMk
        have hb2 := hb.trans h2
        have v6b := v6.ext h2
        cases c with
        | false =>
          go_wp2
          go_roundw
          case rel => exact ⟨k + 1, by omega, by go_num, by rw [hs.out]; rfl, hb2, v6b⟩
          case measure => simp [intOf]; omega
        | true =>
          obtain ⟨_, c0, c1, c2, c3, c4, c5⟩ := id HR
          obtain ⟨_, b0, b1, b2, b3, _, _, _, _⟩ := v6b.four
          have s1 := sub_nat hnk hM
          have s2 := min_nat h (M - nn k)
          have s3 : IntKind.i64.wrap ((nn k : Int) + ((min h (M - nn k) : Nat) : Int)) = ((nn k + min h (M - nn k) : Nat) : Int) := by rw [IntKind.wrap_i64]; omega
          go_wp2_with fail
          refine Dm.wp_region_grow (by kernel_rfl) (by kernel_rfl) ?_
          repeat (go_big_quiet_step (first
            | (go_at_call 28; with_reducible exact Calls.quietE (CH.out _))))
          refine wpQuiet_nil ?_
          intro U hU
          have hb3 := hb2.trans hU
          have v6c := v6b.ext hU
          go_wp2
          exact ⟨⟨k + 1, by omega, by go_num, by rw [hs.out]; congr 1; simp only [if_true]; first | (split <;> omega) | omega, hb3, v6c⟩, by simp [intOf]; omega⟩
      · obtain rfl : k = R.length := by omega
        go_wp2
        go_ret
        exact ⟨rfl, hb⟩
  · subst hM0
    have hHo0 : ∀ (a : Vc), OkV a → ∀ w1, Calls Try.prog 28 #[.agg #[.int .u64 (vG a 0 : Nat), .int .u64 (vG a 1 : Nat), .int .u64 (vG a 2 : Nat), .int .u64 (vG a 3 : Nat)], .agg #[.int .u64 (vG d 0 : Nat), .int .u64 (vG d 1 : Nat), .int .u64 (vG d 2 : Nat), .int .u64 (vG d 3 : Nat)], .int .i64 0] w1 fun e w' => e = .returned (.int .i64 (vholds a d 0 : Nat)) ∧ Ext w1 w' := hHo
    replace hHo := hHo0
    clear hHo0
    go_enter Try.func17, Try.ntmps17
    go_wp2
    go_loopw [9, 10] (fun t i wr => ∃ k : Nat, k ≤ R.length ∧ i = .int .i64 k ∧ t = .int .i64 (nn k : Nat) ∧ Ext w wr ∧ VBox w.heap.size (vG d) wr) (fun _ i _ => R.length - (intOf i).toNat)
    case atStart => exact ⟨0, by omega, rfl, by rw [hn0.out]; rfl, (Ext.refl _).alloc _, hB0⟩
    case round =>
      obtain ⟨k, hk', rfl, rfl, hb, v6⟩ := hrel
      by_cases hlt : k < R.length
      · obtain ⟨b, off, rfl, HR⟩ := (hx.ext hb).sr hlt
        have CH := hHo _ (hx.ok hlt)
        obtain ⟨hh, hs⟩ := hnS.out k hlt
        have hnk := hnL k
        have hlab := (hx.ext hb).lab hlt
        obtain ⟨pq, pc, hpe, _, _⟩ := hlab.shape
        have hkl : (slAt R k).2.2.2.length ≤ 35184372088832 := hk _ (slAt_mem hlt)
        have CMk := CM.out wr hb _ _ hkl hlab
        change Calls _ _ _ _ fun e w' => e = .returned (.bool (letR T (slAt R k))) ∧ Ext wr w' at CMk
        generalize letR T (slAt R k) = c at CMk hs
        generalize slAt R k = r at *
        obtain ⟨node, vv, lv, ls⟩ := r
        simp only at CH hh hs HR hpe hkl hlab CMk
        subst hpe
        generalize vholds vv d 0 = h at CH hh hs
        replace CH := Lib.hid CH
        replace hs := Lib.hid hs
        obtain ⟨_, c0, c1, c2, c3, c4, c5⟩ := id HR
        go_wp2_with fail
        refine CMk.mono ?_; rintro e w2 ⟨rfl, h2⟩
        replace HR := HR.ext h2
        clear c0 c1 c2 c3 c4 c5 CMk
        have hb2 := hb.trans h2
        have v6b := v6.ext h2
        cases c with
        | false =>
          go_wp2
          go_roundw
          case rel => exact ⟨k + 1, by omega, by go_num, by rw [hs.out]; rfl, hb2, v6b⟩
          case measure => simp [intOf]; omega
        | true =>
          obtain ⟨_, c0, c1, c2, c3, c4, c5⟩ := id HR
          obtain ⟨_, b0, b1, b2, b3, _, _, _, _⟩ := v6b.four
          have s1 := sub_nat hnk hM
          have s2 := min_nat h (0 - nn k)
          have s3 : IntKind.i64.wrap ((nn k : Int) + ((min h (0 - nn k) : Nat) : Int)) = ((nn k + min h (0 - nn k) : Nat) : Int) := by rw [IntKind.wrap_i64]; omega
          go_wp2_with fail
          refine Dm.wp_region_grow (by kernel_rfl) (by kernel_rfl) ?_
          repeat (go_big_quiet_step (first
            | (go_at_call 28; with_reducible exact Calls.quietE (CH.out _))))
          refine wpQuiet_nil ?_
          intro U hU
          have hb3 := hb2.trans hU
          have v6c := v6b.ext hU
          go_wp2
          exact ⟨⟨k + 1, by omega, by go_num, by rw [hs.out]; congr 1; simp only [if_true]; first | (split <;> omega) | omega, hb3, v6c⟩, by simp [intOf]; omega⟩
      · obtain rfl : k = R.length := by omega
        go_wp2
        go_ret
        exact ⟨rfl, hb⟩

end Go.Proofs.Ytibimbcjnjefdaa
