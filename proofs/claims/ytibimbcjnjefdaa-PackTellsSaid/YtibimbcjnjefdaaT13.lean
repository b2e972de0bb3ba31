/- Texts one behind the other: Chapter 13: the walks of fitting, Room, best; Chapter 13: the walk of Room; Chapter 13: the walk of Fit; A slot that stands in a slice, cell by cell. -/
import Derived.Test.YtibimbcjnjefdaaT10
import Derived.Test.YtibimbcjnjefdaaT11
import Derived.Test.YtibimbcjnjefdaaT8
namespace Go.Dm
open Go Go.RowKit

/-- An amount's four cells are written. -/
def put4 (w : World) (b : Nat) (V : Nat → Nat) : World :=
  (((w.setCell ⟨b, 0, none⟩ (.int .u64 (V 0 : Nat))).setCell ⟨b, 1, none⟩ (.int .u64 (V 1 : Nat))).setCell ⟨b, 2, none⟩ (.int .u64 (V 2 : Nat))).setCell ⟨b, 3, none⟩ (.int .u64 (V 3 : Nat))
theorem put4_size (w : World) (b : Nat) (V : Nat → Nat) : (put4 w b V).heap.size = w.heap.size := by simp [put4]
theorem VBox.put {b : Nat} {A : Nat → Nat} {w : World} (h : VBox b A w) (V : Nat → Nat) : VBox b V (put4 w b V) :=
  ((((h.set (k := 0) (v := V 0) (by omega)).set (k := 1) (v := V 1) (by omega)).set (k := 2) (v := V 2) (by omega)).set (k := 3) (v := V 3) (by omega)).congr fun j hj => by
    match j, hj with
    | 0, _ => simp
    | 1, _ => simp
    | 2, _ => simp
    | 3, _ => simp
theorem VBox.put_far {b c : Nat} {A : Nat → Nat} {w : World} (h : VBox b A w) (hc : c ≠ b) (V : Nat → Nat) : VBox b A (put4 w c V) :=
  (((h.far hc _).far hc _).far hc _).far hc _
theorem Ext.put4 {w w' : World} (h : Ext w w') {b : Nat} (hb : w.heap.size ≤ b) (V : Nat → Nat) : Ext w (put4 w' b V) :=
  (((h.setCell (p := ⟨b, 0, none⟩) hb _).setCell (p := ⟨b, 1, none⟩) hb _).setCell (p := ⟨b, 2, none⟩) hb _).setCell (p := ⟨b, 3, none⟩) hb _
/-- The four cells, one by one. -/
structure V4 (b : Nat) (A : Nat → Nat) (w : World) : Prop where
  lt : b < w.heap.size
  c0 : w.cell? ⟨b, 0, none⟩ = some (.int .u64 (A 0 : Nat))
  c1 : w.cell? ⟨b, 1, none⟩ = some (.int .u64 (A 1 : Nat))
  c2 : w.cell? ⟨b, 2, none⟩ = some (.int .u64 (A 2 : Nat))
  c3 : w.cell? ⟨b, 3, none⟩ = some (.int .u64 (A 3 : Nat))
  f0 : w.frozen? ⟨b, 0, none⟩ = false
  f1 : w.frozen? ⟨b, 1, none⟩ = false
  f2 : w.frozen? ⟨b, 2, none⟩ = false
  f3 : w.frozen? ⟨b, 3, none⟩ = false
theorem VBox.four {b : Nat} {A : Nat → Nat} {w : World} (h : VBox b A w) : V4 b A w :=
  ⟨h.lt, h.cell 0 (by omega), h.cell 1 (by omega), h.cell 2 (by omega), h.cell 3 (by omega), h.free 0 (by omega), h.free 1 (by omega), h.free 2 (by omega), h.free 3 (by omega)⟩
theorem V4.ext {b : Nat} {A : Nat → Nat} {w w' : World} (h : V4 b A w) (hx : Ext w w') : V4 b A w' := by
  have hc : ∀ {i : Nat} {u}, w.cell? ⟨b, i, none⟩ = some u → w'.cell? ⟨b, i, none⟩ = some u := fun {i u} e => by rw [hx.cell (by exact h.lt)]; exact e
  have hf : ∀ {i : Nat}, w.frozen? ⟨b, i, none⟩ = false → w'.frozen? ⟨b, i, none⟩ = false := fun {i} e => by rw [hx.frozen (by exact h.lt)]; exact e
  exact ⟨Nat.lt_of_lt_of_le h.lt hx.size, hc h.c0, hc h.c1, hc h.c2, hc h.c3, hf h.f0, hf h.f1, hf h.f2, hf h.f3⟩
/-- An amount that stands in a slot. -/
structure VR (b o : Nat) (A : Nat → Nat) (w : World) : Prop where
  lt : b < w.heap.size
  c0 : w.cell? ⟨b, o + 1, none⟩ = some (.int .u64 (A 0 : Nat))
  c1 : w.cell? ⟨b, o + 2, none⟩ = some (.int .u64 (A 1 : Nat))
  c2 : w.cell? ⟨b, o + 3, none⟩ = some (.int .u64 (A 2 : Nat))
  c3 : w.cell? ⟨b, o + 4, none⟩ = some (.int .u64 (A 3 : Nat))
theorem VR.ext {b o : Nat} {A : Nat → Nat} {w w' : World} (h : VR b o A w) (hx : Ext w w') : VR b o A w' := by
  have hc : ∀ {i : Nat} {u}, w.cell? ⟨b, i, none⟩ = some u → w'.cell? ⟨b, i, none⟩ = some u := fun {i u} e => by rw [hx.cell (by exact h.lt)]; exact e
  exact ⟨Nat.lt_of_lt_of_le h.lt hx.size, hc h.c0, hc h.c1, hc h.c2, hc h.c3⟩
theorem Slots.free {w : World} {xs : List SlotR} {p cap} (h : Slots w (.slice p xs.length cap) xs) {k : Nat} (hk : k < xs.length) :
    ∃ b off, p = some ⟨b, off, none⟩ ∧ VR b (off + k*6) (vG (slAt xs k).2.1) w := by
  obtain ⟨b, off, hp, hb, hc⟩ := h.at hk
  exact ⟨b, off, hp, hb, hc 1 (by omega), hc 2 (by omega), hc 3 (by omega), hc 4 (by omega)⟩
theorem VR.far_put {b o c : Nat} {A : Nat → Nat} {w : World} (h : VR b o A w) (hc : c ≠ b) (V : Nat → Nat) : VR b o A (put4 w c V) := by
  have hn : ∀ {i j : Nat}, (⟨c, i, none⟩ : Addr) ≠ ⟨b, j, none⟩ := fun {i j} e => by injection e with e; exact hc e
  have hq : ∀ {j : Nat} {u}, w.cell? ⟨b, j, none⟩ = some u → (put4 w c V).cell? ⟨b, j, none⟩ = some u := fun {j u} e => by
    unfold put4
    rw [World.cell?_setCell_other (h := hn), World.cell?_setCell_other (h := hn), World.cell?_setCell_other (h := hn), World.cell?_setCell_other (h := hn)]
    exact e
  exact ⟨by rw [put4_size]; exact h.lt, hq h.c0, hq h.c1, hq h.c2, hq h.c3⟩
def bI : Option (Nat × Vc) → Nat | none => 0 | some (i, _) => i
def bV : Option (Nat × Vc) → Vc | none => noV | some (_, v) => v
end Go.Dm
namespace Go.Proofs.Ytibimbcjnjefdaa
open Go.RowKit Go.Dm

set_option maxHeartbeats 1000000 in
set_option maxRecDepth 100000 in
theorem kfitting_w (T : List RowS) (R : List SlotR) (v vx : Value) (w : World) (hT : T.length ≤ 35184372088832) (hf : FitR T) (ht : Terms w vx T) (hm : R.length * 72 ≤ 140737488355328) (hk : FitK R) (hx : Slots w v R) :
    Calls Try.prog 22 #[v, vx] w fun e w' => ∃ v', e = .returned v' ∧ w'.ownsRow w.heap.size 47 6 v' (R.filter (letR T)).length (slotCells (R.filter (letR T))) ∧ Ext w w' := by
  obtain ⟨q2, cap2, rfl, _, _⟩ := ht.shape
  have hmf : ∀ (fn : Fn) (first cap : Array Value) (w : World), (Instr.makeFunc fn first cap).run Try.prog w = .ok (.func fn first cap) w := fun _ _ _ _ => rfl
  have hW : Ext w (w.alloc (.cells #[.slice q2 T.length cap2] 23)) := (Ext.refl _).alloc _
  have C1 := kclone_w R v _ hm (hx.ext hW)
  have C2 := fun (w1 : World) (v1 : Value) (h1 : Ext (w.alloc (.cells #[.slice q2 T.length cap2] 23)) w1) ho => kdelete_w T R v1 (.slice q2 T.length cap2) w.heap.size 0 (w.alloc (.cells #[.slice q2 T.length cap2] 23)) w1 hT hf (ht.ext hW) (by omega) hk
    (fun r hr => (hx.ext hW).labs r hr) hx.okv h1 ho (by simp) (by simp)
  replace C1 := Lib.hid C1
  replace C2 := Lib.hid C2
  go_enter Try.func22, Try.ntmps22
  go_wp2_with fail
  refine C1.out.mono ?_; rintro e w1 ⟨v1, rfl, ho1, h1⟩
  go_wp2_with fail
  refine (C2.out _ _ h1 ho1).mono ?_; rintro e w2 ⟨v2, rfl, ho2, h2⟩
  go_wp2
  go_ret
  exact ⟨_, rfl, rowMono ho2 (by simp), hW.trans h2⟩

set_option maxHeartbeats 4000000 in
set_option maxRecDepth 100000 in
theorem kbest_w (F : List SlotR) (d : Vc) (hd : OkV d) (v : Value) (w : World) (hm : F.length ≤ 35184372088832) (hx : Slots w v F) :
    Calls Try.prog 23 #[v, vVal d] w fun e w' => e = .returned (.tuple #[.int .i64 (bI (bestS allS d F) : Nat), vVal (bV (bestS allS d F)), .bool (bestS allS d F).isSome]) ∧ Ext w w' := by
  obtain ⟨q, cap, rfl, _, _⟩ := hx.shape
  unfold vVal
  have hVs := fun (a : Vc) (ha : OkV a) w => vsub_w a d ha hd w
  unfold vVal at hVs
  go_enter Try.func23, Try.ntmps23
  unfold vF
  go_wp2
  go_loopw [4, 6, 12] (fun t4 t6 i wr => ∃ (k : Nat) (s : Option (Nat × Vc)), k ≤ F.length ∧ i = .int .i64 k ∧ t4 = .int .i64 (bI s : Nat) ∧ t6 = .bool s.isSome ∧ Ext w wr ∧ VBox w.heap.size (vG d) wr ∧ VBox (w.heap.size + 1) (vG (bV s)) wr ∧ OkV (bV s) ∧ Hid (bestF allS d F k = s)) (fun _ _ i _ => F.length - (intOf i).toNat)
  case atStart =>
    refine ⟨0, none, by omega, rfl, rfl, rfl, ((Ext.refl w).alloc _).alloc _, (VBox.new w (vG d) _).ext ((Ext.refl _).alloc _), ?_, okV_no, rfl⟩
    have h := VBox.new (w.alloc (.cells #[.int .u64 (vG d 0 : Nat), .int .u64 (vG d 1 : Nat), .int .u64 (vG d 2 : Nat), .int .u64 (vG d 3 : Nat)] 26)) (vG noV) 26
    rw [World.size_alloc] at h
    exact h
  case round =>
    obtain ⟨k, s, hk, rfl, rfl, rfl, hb, v3, v5, hOs, HB⟩ := hrel
    by_cases hlt : k < F.length
    · obtain ⟨b, off, rfl, hR⟩ := (hx.ext hb).free hlt
      have hok := hx.ok hlt
      have hstep : bestF allS d F (k + 1) = bestStep allS d (bestF allS d F k) k (slAt F k) := rfl
      rw [HB.out] at hstep
      unfold bestStep at hstep
      simp only [allS, Bool.true_and] at hstep
      have CS := hVs (slAt F k).2.1 hok
      generalize (slAt F k).2.1 = fr at *
      have hVo : OkV (vOr (vfits d fr) (vsub fr d)) := by
        cases vfits d fr with
        | false => exact okV_no
        | true => exact vsub_ok hok
      have hVt : vfits d fr = true → vOr (vfits d fr) (vsub fr d) = vsub fr d := fun h => by rw [h]; rfl
      generalize vOr (vfits d fr) (vsub fr d) = V at *
      generalize vsub fr d = V' at *
      generalize vfits d fr = c at *
      have HI : VR b (off + k * 6) (vG fr) wr ∧ V4 w.heap.size (vG d) wr := ⟨hR, v3.four⟩
      unfold vF at CS
      replace CS := Lib.hid CS
      replace hstep := Lib.hid hstep
      replace hVt := Lib.hid hVt
      go_wp2_with fail
      try simp only [Act.put, List.setIfInBounds_toArray, List.set_cons_succ, List.set_cons_zero]
      refine Dm.wp_region_fin (I := (fun U => VR b (off + k * 6) (vG fr) U ∧ V4 w.heap.size (vG d) U)) (z := 12) 13 (Dm.bits 13 0) (by kernel_rfl) (by kernel_rfl) (by kernel_rfl) ?_
      refine Dm.wpF_take (i := 0) (listed' := (Dm.bits 13 1)) (fun _ _ h hx => ⟨h.1.ext hx, V4.ext h.2 hx⟩) HI (by kernel_rfl) (by kernel_rfl) rfl (fun _ _ _ _ h => h) ?_; apply Exists.intro; refine And.intro (fun wq hwq => ?_) ?_
      · obtain ⟨⟨_, a0, a1, a2, a3⟩, ⟨_, b0, b1, b2, b3, _, _, _, _⟩⟩ := hwq; go_big_quiet_step (((go_at_call 19; exact Calls.quietE (CS.out _)))); exact wpQuiet_nil rfl
      refine Dm.wpF_take (i := 1) (listed' := (Dm.bits 13 3)) (fun _ _ h hx => ⟨h.1.ext hx, V4.ext h.2 hx⟩) HI (by kernel_rfl) (by kernel_rfl) rfl (fun _ _ _ _ h => h) ?_; apply Exists.intro; refine And.intro (fun wq hwq => ?_) ?_
      · obtain ⟨⟨_, a0, a1, a2, a3⟩, ⟨_, b0, b1, b2, b3, _, _, _, _⟩⟩ := hwq; go_big_quiet_step (((go_at_call 19; exact Calls.quietE (CS.out _)))); exact wpQuiet_nil rfl
      refine Dm.wpF_take (i := 2) (listed' := (Dm.bits 13 7)) (fun _ _ h hx => ⟨h.1.ext hx, V4.ext h.2 hx⟩) HI (by kernel_rfl) (by kernel_rfl) rfl (fun _ _ _ _ h => h) ?_; apply Exists.intro; refine And.intro (fun wq hwq => ?_) ?_
      · obtain ⟨⟨_, a0, a1, a2, a3⟩, ⟨_, b0, b1, b2, b3, _, _, _, _⟩⟩ := hwq; go_big_quiet_step (((go_at_call 19; exact Calls.quietE (CS.out _)))); exact wpQuiet_nil rfl
      refine Dm.wpF_take (i := 3) (listed' := (Dm.bits 13 15)) (fun _ _ h hx => ⟨h.1.ext hx, V4.ext h.2 hx⟩) HI (by kernel_rfl) (by kernel_rfl) rfl (fun _ _ _ _ h => h) ?_; apply Exists.intro; refine And.intro (fun wq hwq => ?_) ?_
      · obtain ⟨⟨_, a0, a1, a2, a3⟩, ⟨_, b0, b1, b2, b3, _, _, _, _⟩⟩ := hwq; go_big_quiet_step (((go_at_call 19; exact Calls.quietE (CS.out _)))); exact wpQuiet_nil rfl
      refine Dm.wpF_take (i := 4) (listed' := (Dm.bits 13 31)) (fun _ _ h hx => ⟨h.1.ext hx, V4.ext h.2 hx⟩) HI (by kernel_rfl) (by kernel_rfl) rfl (fun _ _ _ _ h => h) ?_; apply Exists.intro; refine And.intro (fun wq hwq => ?_) ?_
      · obtain ⟨⟨_, a0, a1, a2, a3⟩, ⟨_, b0, b1, b2, b3, _, _, _, _⟩⟩ := hwq; go_big_quiet_step (((go_at_call 19; exact Calls.quietE (CS.out _)))); exact wpQuiet_nil rfl
      refine Dm.wpF_take (i := 5) (listed' := (Dm.bits 13 63)) (fun _ _ h hx => ⟨h.1.ext hx, V4.ext h.2 hx⟩) HI (by kernel_rfl) (by kernel_rfl) rfl (fun _ _ _ _ h => h) ?_; apply Exists.intro; refine And.intro (fun wq hwq => ?_) ?_
      · obtain ⟨⟨_, a0, a1, a2, a3⟩, ⟨_, b0, b1, b2, b3, _, _, _, _⟩⟩ := hwq; go_big_quiet_step (((go_at_call 19; exact Calls.quietE (CS.out _)))); exact wpQuiet_nil rfl
      refine Dm.wpF_take (i := 6) (listed' := (Dm.bits 13 127)) (fun _ _ h hx => ⟨h.1.ext hx, V4.ext h.2 hx⟩) HI (by kernel_rfl) (by kernel_rfl) rfl (fun _ _ _ _ h => h) ?_; apply Exists.intro; refine And.intro (fun wq hwq => ?_) ?_
      · obtain ⟨⟨_, a0, a1, a2, a3⟩, ⟨_, b0, b1, b2, b3, _, _, _, _⟩⟩ := hwq; go_big_quiet_step (((go_at_call 19; exact Calls.quietE (CS.out _)))); exact wpQuiet_nil rfl
      refine Dm.wpF_take (i := 7) (listed' := (Dm.bits 13 255)) (fun _ _ h hx => ⟨h.1.ext hx, V4.ext h.2 hx⟩) HI (by kernel_rfl) (by kernel_rfl) rfl (fun _ _ _ _ h => h) ?_; apply Exists.intro; refine And.intro (fun wq hwq => ?_) ?_
      · obtain ⟨⟨_, a0, a1, a2, a3⟩, ⟨_, b0, b1, b2, b3, _, _, _, _⟩⟩ := hwq; go_big_quiet_step (((go_at_call 19; exact Calls.quietE (CS.out _)))); exact wpQuiet_nil rfl
      refine Dm.wpF_take (i := 8) (listed' := (Dm.bits 13 511)) (fun _ _ h hx => ⟨h.1.ext hx, V4.ext h.2 hx⟩) HI (by kernel_rfl) (by kernel_rfl) rfl (fun _ _ _ _ h => h) ?_; apply Exists.intro; refine And.intro (fun wq hwq => ?_) ?_
      · obtain ⟨⟨_, a0, a1, a2, a3⟩, ⟨_, b0, b1, b2, b3, _, _, _, _⟩⟩ := hwq; go_big_quiet_step (((go_at_call 19; exact Calls.quietE (CS.out _)))); exact wpQuiet_nil rfl
      refine Dm.wpF_take (i := 9) (listed' := (Dm.bits 13 1023)) (fun _ _ h hx => ⟨h.1.ext hx, V4.ext h.2 hx⟩) HI (by kernel_rfl) (by kernel_rfl) rfl (fun _ _ _ _ h => h) ?_; apply Exists.intro; refine And.intro (fun wq hwq => ?_) ?_
      · obtain ⟨⟨_, a0, a1, a2, a3⟩, ⟨_, b0, b1, b2, b3, _, _, _, _⟩⟩ := hwq; go_big_quiet_step (((go_at_call 19; exact Calls.quietE (CS.out _)))); exact wpQuiet_nil rfl
      refine Dm.wpF_one (i := 10) (listed' := (Dm.bits 13 2047)) (by kernel_rfl) (by kernel_rfl) rfl (fun wm10 hxm10 => ?_)
      have ha := hxm10.trans ((Ext.refl wm10).alloc (.cells #[.int .u64 (0 : Nat), .int .u64 (0 : Nat), .int .u64 (0 : Nat), .int .u64 (0 : Nat)] 26))
      have v8 := VBox.new wm10 (fun _ => 0) 26
      have hz8 : w.heap.size + 2 ≤ wm10.heap.size ∧ b < wm10.heap.size := by have := v5.lt; have := hR.lt; have := hxm10.size; omega
      have b5a := (v5.ext ha)
      have b3a := (v3.ext ha)
      have hba := hb.trans ha
      have HIa : VR b (off + k * 6) (vG fr) (wm10.alloc (.cells #[.int .u64 (0 : Nat), .int .u64 (0 : Nat), .int .u64 (0 : Nat), .int .u64 (0 : Nat)] 26)) ∧ V4 w.heap.size (vG d) (wm10.alloc (.cells #[.int .u64 (0 : Nat), .int .u64 (0 : Nat), .int .u64 (0 : Nat), .int .u64 (0 : Nat)] 26)) := ⟨hR.ext ha, v3.four.ext ha⟩
      go_wp2_with fail
      generalize wm10.heap.size = B8 at *
      generalize wm10.alloc (.cells #[.int .u64 (0 : Nat), .int .u64 (0 : Nat), .int .u64 (0 : Nat), .int .u64 (0 : Nat)] 26) = w6 at *
      refine ⟨(by first | exact HIa | exact fun _ => HIa), ?_⟩
      replace HI := HIa
      try simp only [Act.put, List.setIfInBounds_toArray, List.set_cons_succ, List.set_cons_zero]
      refine Dm.wpF_one (i := 11) (listed' := (Dm.bits 13 4095)) (by kernel_rfl) (by kernel_rfl) rfl (fun wm11 hxm11 => ?_)
      have v8b := (v8.ext hxm11).put (vG V)
      have v5b := (v5.ext (ha.trans hxm11)).put_far (c := B8) (by omega) (vG V)
      have v3b := (v3.ext (ha.trans hxm11)).put_far (c := B8) (by omega) (vG V)
      have hbb := (hb.trans (ha.trans hxm11)).put4 (b := B8) (by omega) (vG V)
      have HIb : VR b (off + k * 6) (vG fr) (put4 wm11 B8 (vG V)) ∧ V4 w.heap.size (vG d) (put4 wm11 B8 (vG V)) := ⟨(hR.ext (ha.trans hxm11)).far_put (by omega) (vG V), v3b.four⟩
      obtain ⟨_, z0, z1, z2, z3, y0, y1, y2, y3⟩ := (v8.ext hxm11).four
      go_wp2_with fail
      clear z0 z1 z2 z3 y0 y1 y2 y3
      change (_ → VR b (off + k * 6) (vG fr) (put4 wm11 B8 (vG V)) ∧ V4 w.heap.size (vG d) (put4 wm11 B8 (vG V))) ∧ wpF _ _ _ _ _ _ _ _ _ (put4 wm11 B8 (vG V))
      generalize put4 wm11 B8 (vG V) = w7 at *
      refine ⟨(by first | exact HIb | exact fun _ => HIb), ?_⟩
      replace HI := HIb
      try simp only [Act.put, List.setIfInBounds_toArray, List.set_cons_succ, List.set_cons_zero]
      refine Dm.wpF_one (i := 12) (listed' := (Dm.bits 13 8191)) (by kernel_rfl) (by kernel_rfl) rfl (fun wz hxz => ?_)
      skip
      go_wp2_with fail
      first | refine ⟨fun h => absurd rfl h, ?_⟩ | skip
      refine Dm.wpF_done (by kernel_rfl) (fun wy hxy => ?_)
      have hby := hbb.trans (hxz.trans hxy)
      have v3y := v3b.ext (hxz.trans hxy)
      have v5y := v5b.ext (hxz.trans hxy)
      have v8y := v8b.ext (hxz.trans hxy)
      clear HI HIb hbb v3b v5b v8b v8 b5a b3a hba HIa ha hxz hxy hR CS
      cases c with
      | false =>
        have hst2 : Hid (bestF allS d F (k + 1) = s) := by
          show _ = _
          rw [hstep.out]; rfl
        clear hstep
        go_wp2
        go_roundw
        case rel => exact ⟨k + 1, s, by omega, by go_num, rfl, rfl, hby, v3y, v5y, hOs, hst2⟩
        case measure => simp [intOf]; omega
      | true =>
        have hVV := hVt.out rfl
        subst hVV
        clear hVt
        cases s with
        | none =>
          have hst2 : Hid (bestF allS d F (k + 1) = some (k, V)) := by
            show _ = _
            rw [hstep.out]; rfl
          clear hstep
          have HI6 : V4 B8 (vG V) wy ∧ V4 (w.heap.size + 1) (vG (bV none)) wy := ⟨(v8y).four, (v5y).four⟩
          have HJ6 : ∃ X, V4 B8 (vG V) wy ∧ V4 (w.heap.size + 1) X wy := ⟨_, HI6⟩
          go_wp2_with fail
          try simp only [Act.put, List.setIfInBounds_toArray, List.set_cons_succ, List.set_cons_zero]
          refine Dm.wp_region_fin (I := (fun U => ∃ X, V4 B8 (vG V) U ∧ V4 (w.heap.size + 1) X U)) (z := 4) 5 (Dm.bits 5 0) (by kernel_rfl) (by kernel_rfl) (by kernel_rfl) ?_
          refine Dm.wpF_take (i := 0) (listed' := (Dm.bits 5 1)) (fun _ _ h hx => by obtain ⟨X, h1, h2⟩ := h; exact ⟨X, V4.ext h1 hx, V4.ext h2 hx⟩) HJ6 (by kernel_rfl) (by kernel_rfl) rfl (fun _ _ _ _ h => h) ?_; apply Exists.intro; refine And.intro (fun wq hwq => ?_) ?_
          · obtain ⟨_, ⟨_, a0, a1, a2, a3, _, _, _, _⟩, _⟩ := hwq; go_big_quiet_step (fail); exact wpQuiet_nil rfl
          refine Dm.wpF_take (i := 1) (listed' := (Dm.bits 5 3)) (fun _ _ h hx => by obtain ⟨X, h1, h2⟩ := h; exact ⟨X, V4.ext h1 hx, V4.ext h2 hx⟩) HJ6 (by kernel_rfl) (by kernel_rfl) rfl (fun _ _ _ _ h => h) ?_; apply Exists.intro; refine And.intro (fun wq hwq => ?_) ?_
          · obtain ⟨_, ⟨_, a0, a1, a2, a3, _, _, _, _⟩, _⟩ := hwq; go_big_quiet_step (fail); exact wpQuiet_nil rfl
          refine Dm.wpF_take (i := 2) (listed' := (Dm.bits 5 7)) (fun _ _ h hx => by obtain ⟨X, h1, h2⟩ := h; exact ⟨X, V4.ext h1 hx, V4.ext h2 hx⟩) HJ6 (by kernel_rfl) (by kernel_rfl) rfl (fun _ _ _ _ h => h) ?_; apply Exists.intro; refine And.intro (fun wq hwq => ?_) ?_
          · obtain ⟨_, ⟨_, a0, a1, a2, a3, _, _, _, _⟩, _⟩ := hwq; go_big_quiet_step (fail); exact wpQuiet_nil rfl
          refine Dm.wpF_one (i := 3) (listed' := (Dm.bits 5 15)) (by kernel_rfl) (by kernel_rfl) rfl (fun wm3 hxm3 => ?_)
          obtain ⟨_, z0, z1, z2, z3, y0, y1, y2, y3⟩ := HI6.2.ext hxm3
          have v5p := ((v5y).ext hxm3).put (vG V)
          have v3p := ((v3y).ext hxm3).put_far (c := w.heap.size + 1) (by omega) (vG V)
          have v8p := ((v8y).ext hxm3).put_far (c := w.heap.size + 1) (by omega) (vG V)
          have hbp := ((hby).trans hxm3).put4 (b := w.heap.size + 1) (Nat.le_succ _) (vG V)
          have HJ : ∃ X, V4 B8 (vG V) (put4 wm3 (w.heap.size + 1) (vG V)) ∧ V4 (w.heap.size + 1) X (put4 wm3 (w.heap.size + 1) (vG V)) := ⟨_, v8p.four, v5p.four⟩
          go_wp2_with fail
          clear z0 z1 z2 z3 y0 y1 y2 y3
          change (_ → ∃ X, V4 B8 (vG V) (put4 wm3 (w.heap.size + 1) (vG V)) ∧ V4 (w.heap.size + 1) X (put4 wm3 (w.heap.size + 1) (vG V))) ∧ wpF _ _ _ _ _ _ _ _ _ (put4 wm3 (w.heap.size + 1) (vG V))
          generalize put4 wm3 (w.heap.size + 1) (vG V) = w9 at *
          refine ⟨(by first | exact HJ | exact fun _ => HJ), ?_⟩
          replace HJ6 := HJ
          try simp only [Act.put, List.setIfInBounds_toArray, List.set_cons_succ, List.set_cons_zero]
          refine Dm.wpF_one (i := 4) (listed' := (Dm.bits 5 31)) (by kernel_rfl) (by kernel_rfl) rfl (fun wz hxz => ?_)
          skip
          go_wp2_with fail
          first | refine ⟨fun h => absurd rfl h, ?_⟩ | skip
          refine Dm.wpF_done (by kernel_rfl) (fun wy hxy => ?_)
          have hbq := hbp.trans (hxz.trans hxy)
          have v3q := v3p.ext (hxz.trans hxy)
          have v5q := v5p.ext (hxz.trans hxy)
          go_wp2
          go_roundw
          case rel => exact ⟨k + 1, some (k, V), by omega, by go_num, rfl, rfl, hbq, v3q, v5q, hVo, hst2⟩
          case measure => simp [intOf]; omega
        | some q =>
          have CO := vorder_w V (bV (some q)) hVo hOs wy
          have hst3 := hstep.out
          obtain ⟨qi, qv⟩ := q
          rw [if_pos rfl] at hst3
          simp only at hst3
          rw [show vord V (bV (some (qi, qv))) = vord V qv from rfl] at CO
          clear hstep
          unfold vVal vF at CO
          obtain ⟨_, z0, z1, z2, z3, _, _, _, _⟩ := v8y.four
          obtain ⟨_, y0, y1, y2, y3, _, _, _, _⟩ := v5y.four
          by_cases hneg : vord V qv < 0
          · rw [if_pos hneg] at hst3
            have hst2 := Lib.hid hst3
            generalize vord V qv = o at CO hneg
            clear hst3
            go_wp2_with fail
            refine CO.mono ?_; rintro e w8 ⟨rfl, h8⟩
            clear z0 z1 z2 z3 y0 y1 y2 y3 CO
            have HI6 : V4 B8 (vG V) w8 ∧ V4 (w.heap.size + 1) (vG (bV (some (qi, qv)))) w8 := ⟨(v8y.ext h8).four, (v5y.ext h8).four⟩
            have HJ6 : ∃ X, V4 B8 (vG V) w8 ∧ V4 (w.heap.size + 1) X w8 := ⟨_, HI6⟩
            go_wp2_with fail
            try simp only [Act.put, List.setIfInBounds_toArray, List.set_cons_succ, List.set_cons_zero]
            refine Dm.wp_region_fin (I := (fun U => ∃ X, V4 B8 (vG V) U ∧ V4 (w.heap.size + 1) X U)) (z := 4) 5 (Dm.bits 5 0) (by kernel_rfl) (by kernel_rfl) (by kernel_rfl) ?_
            refine Dm.wpF_take (i := 0) (listed' := (Dm.bits 5 1)) (fun _ _ h hx => by obtain ⟨X, h1, h2⟩ := h; exact ⟨X, V4.ext h1 hx, V4.ext h2 hx⟩) HJ6 (by kernel_rfl) (by kernel_rfl) rfl (fun _ _ _ _ h => h) ?_; apply Exists.intro; refine And.intro (fun wq hwq => ?_) ?_
            · obtain ⟨_, ⟨_, a0, a1, a2, a3, _, _, _, _⟩, _⟩ := hwq; go_big_quiet_step (fail); exact wpQuiet_nil rfl
            refine Dm.wpF_take (i := 1) (listed' := (Dm.bits 5 3)) (fun _ _ h hx => by obtain ⟨X, h1, h2⟩ := h; exact ⟨X, V4.ext h1 hx, V4.ext h2 hx⟩) HJ6 (by kernel_rfl) (by kernel_rfl) rfl (fun _ _ _ _ h => h) ?_; apply Exists.intro; refine And.intro (fun wq hwq => ?_) ?_
            · obtain ⟨_, ⟨_, a0, a1, a2, a3, _, _, _, _⟩, _⟩ := hwq; go_big_quiet_step (fail); exact wpQuiet_nil rfl
            refine Dm.wpF_take (i := 2) (listed' := (Dm.bits 5 7)) (fun _ _ h hx => by obtain ⟨X, h1, h2⟩ := h; exact ⟨X, V4.ext h1 hx, V4.ext h2 hx⟩) HJ6 (by kernel_rfl) (by kernel_rfl) rfl (fun _ _ _ _ h => h) ?_; apply Exists.intro; refine And.intro (fun wq hwq => ?_) ?_
            · obtain ⟨_, ⟨_, a0, a1, a2, a3, _, _, _, _⟩, _⟩ := hwq; go_big_quiet_step (fail); exact wpQuiet_nil rfl
            refine Dm.wpF_one (i := 3) (listed' := (Dm.bits 5 15)) (by kernel_rfl) (by kernel_rfl) rfl (fun wm3 hxm3 => ?_)
            obtain ⟨_, z0, z1, z2, z3, y0, y1, y2, y3⟩ := HI6.2.ext hxm3
            have v5p := ((v5y.ext h8).ext hxm3).put (vG V)
            have v3p := ((v3y.ext h8).ext hxm3).put_far (c := w.heap.size + 1) (by omega) (vG V)
            have v8p := ((v8y.ext h8).ext hxm3).put_far (c := w.heap.size + 1) (by omega) (vG V)
            have hbp := ((hby.trans h8).trans hxm3).put4 (b := w.heap.size + 1) (Nat.le_succ _) (vG V)
            have HJ : ∃ X, V4 B8 (vG V) (put4 wm3 (w.heap.size + 1) (vG V)) ∧ V4 (w.heap.size + 1) X (put4 wm3 (w.heap.size + 1) (vG V)) := ⟨_, v8p.four, v5p.four⟩
            go_wp2_with fail
            clear z0 z1 z2 z3 y0 y1 y2 y3
            change (_ → ∃ X, V4 B8 (vG V) (put4 wm3 (w.heap.size + 1) (vG V)) ∧ V4 (w.heap.size + 1) X (put4 wm3 (w.heap.size + 1) (vG V))) ∧ wpF _ _ _ _ _ _ _ _ _ (put4 wm3 (w.heap.size + 1) (vG V))
            generalize put4 wm3 (w.heap.size + 1) (vG V) = w9 at *
            refine ⟨(by first | exact HJ | exact fun _ => HJ), ?_⟩
            replace HJ6 := HJ
            try simp only [Act.put, List.setIfInBounds_toArray, List.set_cons_succ, List.set_cons_zero]
            refine Dm.wpF_one (i := 4) (listed' := (Dm.bits 5 31)) (by kernel_rfl) (by kernel_rfl) rfl (fun wz hxz => ?_)
            skip
            go_wp2_with fail
            first | refine ⟨fun h => absurd rfl h, ?_⟩ | skip
            refine Dm.wpF_done (by kernel_rfl) (fun wy hxy => ?_)
            have hbq := hbp.trans (hxz.trans hxy)
            have v3q := v3p.ext (hxz.trans hxy)
            have v5q := v5p.ext (hxz.trans hxy)
            go_wp2
            go_roundw
            case rel => exact ⟨k + 1, some (k, V), by omega, by go_num, rfl, rfl, hbq, v3q, v5q, hVo, hst2⟩
            case measure => simp [intOf]; omega
          · rw [if_neg hneg] at hst3
            have hst2 := Lib.hid hst3
            generalize vord V qv = o at CO hneg
            clear hst3
            go_wp2_with fail
            refine CO.mono ?_; rintro e w8 ⟨rfl, h8⟩
            clear z0 z1 z2 z3 y0 y1 y2 y3 CO
            go_wp2
            go_roundw
            case rel => exact ⟨k + 1, some (qi, qv), by omega, by go_num, rfl, rfl, hby.trans h8, v3y.ext h8, v5y.ext h8, hOs, hst2⟩
            case measure => simp [intOf]; omega
    · obtain rfl : k = F.length := by omega
      have hS : Hid (bestS allS d F = s) := HB.out
      clear HB hVs
      have HJ6 : V4 (w.heap.size + 1) (vG (bV s)) wr := v5.four
      go_wp2_with fail
      try simp only [Act.put, List.setIfInBounds_toArray, List.set_cons_succ, List.set_cons_zero]
      refine Dm.wp_region_fin (I := (V4 (w.heap.size + 1) (vG (bV s)))) (z := 5) 6 (Dm.bits 6 0) (by kernel_rfl) (by kernel_rfl) (by kernel_rfl) ?_
      refine Dm.wpF_take (i := 0) (listed' := (Dm.bits 6 1)) (fun _ _ h hx => V4.ext h hx) HJ6 (by kernel_rfl) (by kernel_rfl) rfl (fun _ _ _ _ h => h) ?_; apply Exists.intro; refine And.intro (fun wq hwq => ?_) ?_
      · obtain ⟨_, a0, a1, a2, a3, _, _, _, _⟩ := hwq; go_big_quiet_step (fail); exact wpQuiet_nil rfl
      refine Dm.wpF_take (i := 1) (listed' := (Dm.bits 6 3)) (fun _ _ h hx => V4.ext h hx) HJ6 (by kernel_rfl) (by kernel_rfl) rfl (fun _ _ _ _ h => h) ?_; apply Exists.intro; refine And.intro (fun wq hwq => ?_) ?_
      · obtain ⟨_, a0, a1, a2, a3, _, _, _, _⟩ := hwq; go_big_quiet_step (fail); exact wpQuiet_nil rfl
      refine Dm.wpF_take (i := 2) (listed' := (Dm.bits 6 7)) (fun _ _ h hx => V4.ext h hx) HJ6 (by kernel_rfl) (by kernel_rfl) rfl (fun _ _ _ _ h => h) ?_; apply Exists.intro; refine And.intro (fun wq hwq => ?_) ?_
      · obtain ⟨_, a0, a1, a2, a3, _, _, _, _⟩ := hwq; go_big_quiet_step (fail); exact wpQuiet_nil rfl
      refine Dm.wpF_take (i := 3) (listed' := (Dm.bits 6 15)) (fun _ _ h hx => V4.ext h hx) HJ6 (by kernel_rfl) (by kernel_rfl) rfl (fun _ _ _ _ h => h) ?_; apply Exists.intro; refine And.intro (fun wq hwq => ?_) ?_
      · obtain ⟨_, a0, a1, a2, a3, _, _, _, _⟩ := hwq; go_big_quiet_step (fail); exact wpQuiet_nil rfl
      refine Dm.wpF_one (i := 4) (listed' := (Dm.bits 6 31)) (by kernel_rfl) (by kernel_rfl) rfl (fun wm4 hxm4 => ?_)
      obtain ⟨_, z0, z1, z2, z3, y0, y1, y2, y3⟩ := HJ6.ext hxm4
      have v5p := (v5.ext hxm4).put (vG (bV s))
      have hbp := (hb.trans hxm4).put4 (b := w.heap.size + 1) (Nat.le_succ _) (vG (bV s))
      go_wp2_with fail
      clear z0 z1 z2 z3 y0 y1 y2 y3
      change (_ → V4 (w.heap.size + 1) (vG (bV s)) (put4 wm4 (w.heap.size + 1) (vG (bV s)))) ∧ wpF _ _ _ _ _ _ _ _ _ (put4 wm4 (w.heap.size + 1) (vG (bV s)))
      generalize put4 wm4 (w.heap.size + 1) (vG (bV s)) = w9 at *
      have HJ := v5p.four
      refine ⟨(by first | exact HJ | exact fun _ => HJ), ?_⟩
      replace HJ6 := HJ
      try simp only [Act.put, List.setIfInBounds_toArray, List.set_cons_succ, List.set_cons_zero]
      refine Dm.wpF_one (i := 5) (listed' := (Dm.bits 6 63)) (by kernel_rfl) (by kernel_rfl) rfl (fun wz hxz => ?_)
      skip
      go_wp2_with fail
      first | refine ⟨fun h => absurd rfl h, ?_⟩ | skip
      refine Dm.wpF_done (by kernel_rfl) (fun wy hxy => ?_)
      have hbq := hbp.trans (hxz.trans hxy)
      obtain ⟨_, k0, k1, k2, k3, _, _, _, _⟩ := (v5p.ext (hxz.trans hxy)).four
      go_wp2
      refine bodyPost_ret (v := .tuple #[.int .i64 (bI s : Nat), .agg #[.int .u64 (vG (bV s) 0 : Nat), .int .u64 (vG (bV s) 1 : Nat), .int .u64 (vG (bV s) 2 : Nat), .int .u64 (vG (bV s) 3 : Nat)], .bool s.isSome]) (by simp [results, Try.results23, go_sem, k0, k1, k2, k3]) rfl ?_
      exact ⟨by rw [hS.out], hbq⟩

end Go.Proofs.Ytibimbcjnjefdaa

namespace Go.Dm
open Go Go.RowKit
theorem roomF_take {f d m} {F : List SlotR} {k : Nat} (h : k < F.length) : roomF f d m (F.take (k + 1)) = roomF f d m (F.take k) + (if f (slAt F k) then vholds (slAt F k).2.1 d m else 0) := by
  rw [take_slot h, roomF_app, roomF_cons]
  simp [roomF]
theorem letR_lab (T : List RowS) : LabF (letR T) := fun _ _ => rfl
theorem sub_nat {M n : Nat} (h : n ≤ M) (hM : M ≤ 9223372036854775807) : IntKind.i64.wrap ((M : Int) - (n : Int)) = ((M - n : Nat) : Int) := by rw [IntKind.wrap_i64]; omega
theorem min_nat (a b : Nat) : (if (b : Int) < (a : Int) then (b : Int) else (a : Int)) = ((min a b : Nat) : Int) := by split <;> omega
theorem Slots.sub_filter {w w' : World} {v v' : Value} {R : List SlotR} {B e : Nat} {f : SlotR → Bool} (h : Slots w v R) (hx : Ext w w') (ho : w'.ownsRow B e 6 v' (R.filter f).length (slotCells (R.filter f))) : Slots w' v' (R.filter f) :=
  Slots.of_row ho rfl (fun r hr => (h.labs r (List.mem_filter.1 hr).1).ext hx) (fun r hr => h.okv r (List.mem_filter.1 hr).1)
end Go.Dm
namespace Go.Proofs.Ytibimbcjnjefdaa
open Go.RowKit Go.Dm

set_option maxHeartbeats 4000000 in
set_option maxRecDepth 100000 in
theorem kroomN_w (T : List RowS) (R : List SlotR) (v vx : Value) (d : Vc) (hd : OkV d) (m : Int) (M : Nat) (hM : M ≤ 9223372036854775807) (hmM : m = M ∨ (m < 0 ∧ M = 0)) (w : World) (hT : T.length ≤ 35184372088832) (hf : FitR T) (ht : Terms w vx T) (hm : R.length * 72 ≤ 140737488355328) (hk : FitK R) (hx : Slots w v R) :
    Calls Try.prog 16 #[v, vx, vVal d, .int .i64 m] w fun e w' => e = .returned (.int .i64 (roomS (letR T) d M R : Nat)) ∧ Ext w w' := by
  have hr0 : roomS (letR T) d M R = min M (roomF allS d M (R.filter (letR T))) := by unfold roomS; rw [room_filter]
  rw [hr0]
  clear hr0
  have hFl : (R.filter (letR T)).length ≤ R.length := List.length_filter_le _ _
  have hW : Ext w (w.alloc (.cells #[.int .u64 (vG d 0 : Nat), .int .u64 (vG d 1 : Nat), .int .u64 (vG d 2 : Nat), .int .u64 (vG d 3 : Nat)] 26)) := (Ext.refl _).alloc _
  have v6 := VBox.new w (vG d) 26
  have C := kfitting_w T R v vx _ hT hf (ht.ext hW) hm hk (hx.ext hW)
  have hSl := fun (w1 : World) (v1 : Value) h1 ho => Slots.sub_filter (w := w.alloc (.cells #[.int .u64 (vG d 0 : Nat), .int .u64 (vG d 1 : Nat), .int .u64 (vG d 2 : Nat), .int .u64 (vG d 3 : Nat)] 26)) (w' := w1) (v' := v1) (B := (w.alloc (.cells #[.int .u64 (vG d 0 : Nat), .int .u64 (vG d 1 : Nat), .int .u64 (vG d 2 : Nat), .int .u64 (vG d 3 : Nat)] 26)).heap.size) (e := 47) (f := letR T) (hx.ext hW) h1 ho
  generalize R.filter (letR T) = F at *
  have hn0 : min M (roomF allS d M (F.take 0)) = 0 := by simp [roomF]
  have hnE : min M (roomF allS d M F) = min M (roomF allS d M (F.take F.length)) := by rw [List.take_length]
  have hnS : ∀ k, k < F.length → vholds (slAt F k).2.1 d M ≤ M ∧ min M (roomF allS d M (F.take (k + 1))) = min M (roomF allS d M (F.take k)) + min (vholds (slAt F k).2.1 d M) (M - min M (roomF allS d M (F.take k))) := fun k h => by
    have := vholds_le (slAt F k).2.1 d M
    refine ⟨this, ?_⟩
    rw [roomF_take h]
    simp only [allS, if_true]
    omega
  have hnL : ∀ k, min M (roomF allS d M (F.take k)) ≤ M := fun k => Nat.min_le_left _ _
  rw [hnE]
  clear hnE
  obtain ⟨nn, hnn⟩ : ∃ nn : Nat → Nat, nn = fun k => min M (roomF allS d M (F.take k)) := ⟨_, rfl⟩
  have hnn' : ∀ k, min M (roomF allS d M (F.take k)) = nn k := fun k => by rw [hnn]
  simp only [hnn'] at hn0 hnS hnL ⊢
  clear hnn hnn'
  have hHo : ∀ (a : Vc), OkV a → ∀ w1, Calls Try.prog 21 #[vVal a, vVal d, .int .i64 m] w1 fun e w' => e = .returned (.int .i64 (vholds a d M : Nat)) ∧ Ext w1 w' := fun a ha w1 => vholdsN_w a d ha hd m M hM hmM w1
  obtain ⟨q2, cap2, rfl, _, _⟩ := ht.shape
  have hx0 := hx
  obtain ⟨qx, capx, rfl, _, _⟩ := hx0.shape
  unfold vVal vF at hHo ⊢
  replace C := Lib.hid C
  replace hSl := Lib.hid hSl
  replace hn0 := Lib.hid hn0
  replace hnS := Lib.hid hnS
  rcases hmM with hmM | ⟨hneg, rfl⟩
  · subst hmM
    go_enter Try.func16, Try.ntmps16
    go_wp2_with fail
    refine C.out.mono ?_; rintro e w1 ⟨v1, rfl, ho1, h1⟩
    have hF := hSl.out w1 v1 h1 ho1
    have v6a := v6.ext h1
    have hE1 := hW.trans h1
    obtain ⟨q, cap, rfl, _, _⟩ := hF.shape
    clear v6 C hSl ho1 h1 hW
    go_wp2
    go_loopw [9, 16] (fun t9 i wr => ∃ k : Nat, k ≤ F.length ∧ i = .int .i64 k ∧ t9 = .int .i64 (nn k : Nat) ∧ Ext w1 wr) (fun _ i _ => F.length - (intOf i).toNat)
    case atStart => exact ⟨0, by omega, rfl, by rw [hn0.out]; rfl, Ext.refl _⟩
    case round =>
      obtain ⟨k, hk', rfl, rfl, hb⟩ := hrel
      by_cases hlt : k < F.length
      · obtain ⟨b, off, rfl, hbl, hcs⟩ := (hF.ext hb).at hlt
        have CH := hHo _ (hF.ok hlt)
        obtain ⟨hh, hs⟩ := hnS.out k hlt
        have hnk := hnL k
        obtain ⟨pq, pc, hpe, _, _⟩ := ((hF.ext hb).lab hlt).shape
        have c0 := hcs 0 (by omega)
        have c1 := hcs 1 (by omega)
        have c2 := hcs 2 (by omega)
        have c3 := hcs 3 (by omega)
        have c4 := hcs 4 (by omega)
        have c5 := hcs 5 (by omega)
        simp only [slotOne, vAt, List.getElem?_cons_zero, List.getElem?_cons_succ, Nat.add_zero] at c0 c1 c2 c3 c4 c5
        generalize slAt F k = r at CH hh hs c0 c1 c2 c3 c4 c5 hpe
        obtain ⟨node, vv, lv, ls⟩ := r
        simp only at CH hh hs c0 c1 c2 c3 c4 c5 hpe
        subst hpe
        clear hcs
        generalize vholds vv d M = h at CH hh hs
        generalize vG vv = A at CH c0 c1 c2 c3 c4 c5
        replace CH := Lib.hid CH
        replace hs := Lib.hid hs
        have hv6 := v6a.ext hb
        obtain ⟨_, z0, z1, z2, z3, _, _, _, _⟩ := hv6.four
        have s1 := sub_nat hnk hM
        have s2 := min_nat h (M - nn k)
        have s3 : IntKind.i64.wrap ((nn k : Int) + ((min h (M - nn k) : Nat) : Int)) = ((nn k + min h (M - nn k) : Nat) : Int) := by rw [IntKind.wrap_i64]; omega
        go_wp2_with fail
        refine (CH.out _).mono ?_; rintro e w3 ⟨rfl, h3⟩
        go_wp2
        exact ⟨⟨k + 1, by omega, by simp, by rw [hs.out]; congr 1; first | omega | (split <;> omega), hb.trans (((Ext.refl _).alloc _).trans h3)⟩, by simp [intOf]; omega⟩
      · obtain rfl : k = F.length := by omega
        go_wp2
        go_ret
        exact ⟨rfl, hE1.trans hb⟩
  · go_enter Try.func16, Try.ntmps16
    go_wp2_with fail
    refine C.out.mono ?_; rintro e w1 ⟨v1, rfl, ho1, h1⟩
    have hF := hSl.out w1 v1 h1 ho1
    have v6a := v6.ext h1
    have hE1 := hW.trans h1
    obtain ⟨q, cap, rfl, _, _⟩ := hF.shape
    clear v6 C hSl ho1 h1 hW
    go_wp2
    go_loopw [9, 16] (fun t9 i wr => ∃ k : Nat, k ≤ F.length ∧ i = .int .i64 k ∧ t9 = .int .i64 (nn k : Nat) ∧ Ext w1 wr) (fun _ i _ => F.length - (intOf i).toNat)
    case atStart => exact ⟨0, by omega, rfl, by rw [hn0.out]; rfl, Ext.refl _⟩
    case round =>
      obtain ⟨k, hk', rfl, rfl, hb⟩ := hrel
      by_cases hlt : k < F.length
      · obtain ⟨b, off, rfl, hbl, hcs⟩ := (hF.ext hb).at hlt
        have CH := hHo _ (hF.ok hlt)
        obtain ⟨hh, hs⟩ := hnS.out k hlt
        have hnk := hnL k
        obtain ⟨pq, pc, hpe, _, _⟩ := ((hF.ext hb).lab hlt).shape
        have c0 := hcs 0 (by omega)
        have c1 := hcs 1 (by omega)
        have c2 := hcs 2 (by omega)
        have c3 := hcs 3 (by omega)
        have c4 := hcs 4 (by omega)
        have c5 := hcs 5 (by omega)
        simp only [slotOne, vAt, List.getElem?_cons_zero, List.getElem?_cons_succ, Nat.add_zero] at c0 c1 c2 c3 c4 c5
        generalize slAt F k = r at CH hh hs c0 c1 c2 c3 c4 c5 hpe
        obtain ⟨node, vv, lv, ls⟩ := r
        simp only at CH hh hs c0 c1 c2 c3 c4 c5 hpe
        subst hpe
        clear hcs
        generalize vholds vv d 0 = h at CH hh hs
        generalize vG vv = A at CH c0 c1 c2 c3 c4 c5
        replace CH := Lib.hid CH
        replace hs := Lib.hid hs
        have hv6 := v6a.ext hb
        obtain ⟨_, z0, z1, z2, z3, _, _, _, _⟩ := hv6.four
        have s1 := sub_nat hnk hM
        have s2 := min_nat h (0 - nn k)
        have s3 : IntKind.i64.wrap ((nn k : Int) + ((min h (0 - nn k) : Nat) : Int)) = ((nn k + min h (0 - nn k) : Nat) : Int) := by rw [IntKind.wrap_i64]; omega
        go_wp2_with fail
        refine (CH.out _).mono ?_; rintro e w3 ⟨rfl, h3⟩
        go_wp2
        exact ⟨⟨k + 1, by omega, by simp, by rw [hs.out]; congr 1; first | omega | (split <;> omega), hb.trans (((Ext.refl _).alloc _).trans h3)⟩, by simp [intOf]; omega⟩
      · obtain rfl : k = F.length := by omega
        go_wp2
        go_ret
        exact ⟨rfl, hE1.trans hb⟩

end Go.Proofs.Ytibimbcjnjefdaa

namespace Go.Dm
open Go Go.RowKit

theorem fit_succ (f : SlotR → Bool) (d : Vc) (n : Nat) (G : List SlotR) : fitS f d (n + 1) G = match bestS f d G with
    | none => none
    | some (i, v) => (fitS f d n (G.set i (setFree (slAt G i) v))).map ((slAt G i).1 :: ·) := rfl
/-- What is left to be told once k copies have their place. -/
def FitAt (d : Vc) (N : Nat) (F : List SlotR) (k : Nat) (G : List SlotR) (acc : List ByteArray) : Prop :=
  fitS allS d N F = (fitS allS d (N - k) G).map (acc ++ ·)
theorem FitAt.start (d : Vc) (N : Nat) (F : List SlotR) : FitAt d N F 0 F [] := by simp [FitAt]
theorem FitAt.none {d : Vc} {N k : Nat} {F G : List SlotR} {acc} (h : FitAt d N F k G acc) (hk : k < N) (hb : bestS allS d G = none) : fitS allS d N F = none := by
  unfold FitAt at h
  obtain ⟨m, hm⟩ : ∃ m, N - k = m + 1 := ⟨N - k - 1, by omega⟩
  rw [h, hm, fit_succ, hb]; rfl
theorem FitAt.some {d : Vc} {N k i : Nat} {v : Vc} {F G : List SlotR} {acc} (h : FitAt d N F k G acc) (hk : k < N) (hb : bestS allS d G = some (i, v)) :
    FitAt d N F (k + 1) (G.set i (setFree (slAt G i) v)) (acc ++ [(slAt G i).1]) := by
  unfold FitAt at h ⊢
  obtain ⟨m, hm⟩ : ∃ m, N - k = m + 1 := ⟨N - k - 1, by omega⟩
  have hm' : N - (k + 1) = m := by omega
  rw [h, hm, fit_succ, hb, hm']
  simp only [Option.map_map]
  congr 1
  funext x
  simp
theorem FitAt.end {d : Vc} {N : Nat} {F G : List SlotR} {acc} (h : FitAt d N F N G acc) : fitS allS d N F = .some acc := by
  unfold FitAt at h
  rw [h, Nat.sub_self]; simp [fitS]
/-- The free amount of one slot is written. -/
theorem slotCells_set {G : List SlotR} {i : Nat} (hi : i < G.length) (v : Vc) : slotCells (G.set i (setFree (slAt G i) v)) = splice (slotCells G) (i * 6 + 1) [vAt v 0, vAt v 1, vAt v 2, vAt v 3] := by
  have e1 : G.set i (setFree (slAt G i) v) = G.take i ++ setFree (slAt G i) v :: G.drop (i + 1) := by rw [List.set_eq_take_append_cons_drop, if_pos hi]
  have e2 := split_at hi
  have hA : (slotCells (G.take i)).length = i * 6 := by rw [slotCells_len, List.length_take]; omega
  have hc : ∀ x : SlotR, slotCells (G.take i ++ x :: G.drop (i + 1)) = slotCells (G.take i) ++ (slotOne x ++ slotCells (G.drop (i + 1))) := fun x => by
    rw [slotCells_app]; rfl
  rw [e1, hc]
  conv => rhs; arg 1; rw [e2, hc]
  unfold splice
  have h1 : (slotCells (G.take i) ++ (slotOne (slAt G i) ++ slotCells (G.drop (i + 1)))).take (i * 6 + 1) = slotCells (G.take i) ++ [.string (slAt G i).1] := by
    rw [← hA, List.take_length_add_append]; rfl
  have h2 : (slotCells (G.take i) ++ (slotOne (slAt G i) ++ slotCells (G.drop (i + 1)))).drop (i * 6 + 1 + 4) = (slAt G i).2.2.1 :: slotCells (G.drop (i + 1)) := by
    rw [show i * 6 + 1 + 4 = (slotCells (G.take i)).length + 5 by omega, List.drop_length_add_append]; rfl
  show _ = _ ++ ([vAt v 0, vAt v 1, vAt v 2, vAt v 3] ++ List.drop (i * 6 + 1 + 4) _)
  rw [h1, h2]
  simp [slotOne, setFree]
theorem set_mem {G : List SlotR} {i : Nat} {v : Vc} {r : SlotR} (h : r ∈ G.set i (setFree (slAt G i) v)) : r ∈ G ∨ r = setFree (slAt G i) v := List.mem_or_eq_of_mem_set h
theorem best_ok {f d G i v} (h : bestS f d G = some (i, v)) (ho : ∀ r ∈ G, OkV r.2.1) : OkV v := by
  obtain ⟨hi, _, _, rfl⟩ := best_some h
  exact vsub_ok (ho _ (slAt_mem hi))
theorem splice_take {α : Type} (L : List α) {a n : Nat} (cs : List α) (h : a + cs.length ≤ n) (hn : n ≤ L.length) : (splice L a cs).take n = splice (L.take n) a cs := by
  unfold splice
  rw [List.take_append, List.take_append, List.take_take, List.take_take, List.length_take]
  have e1 : min n a = a := by omega
  have e2 : min a L.length = a := by omega
  have e3 : min a n = a := by omega
  rw [e1, e2, e3, List.take_of_length_le (l := cs) (by omega), List.drop_take]
  congr 3
  omega
end Go.Dm
namespace Go.Proofs.Ytibimbcjnjefdaa
open Go.RowKit Go.Dm

set_option maxHeartbeats 4000000 in
set_option maxRecDepth 100000 in
theorem kfitN_w (T : List RowS) (R : List SlotR) (v vx : Value) (d : Vc) (hd : OkV d) (N : Nat) (hN : N ≤ 8) (w : World) (hT : T.length ≤ 35184372088832) (hf : FitR T) (ht : Terms w vx T) (hm : R.length * 72 ≤ 140737488355328) (hk : FitK R) (hx : Slots w v R) :
    Calls Try.prog 10 #[v, vx, vVal d, .int .i64 (N : Nat)] w fun e w' => ∃ vo, e = .returned (.tuple #[vo, .bool (fitS (letR T) d N R).isSome]) ∧ Strs w' vo ((fitS (letR T) d N R).getD []) ∧ Ext w w' := by
  rw [← fit_filter (letR_lab T)]
  have hFl : (R.filter (letR T)).length ≤ R.length := List.length_filter_le _ _
  have hW : Ext w (w.alloc (.cells #[.int .u64 (vG d 0 : Nat), .int .u64 (vG d 1 : Nat), .int .u64 (vG d 2 : Nat), .int .u64 (vG d 3 : Nat)] 26)) := (Ext.refl _).alloc _
  have v6 := VBox.new w (vG d) 26
  have C := kfitting_w T R v vx _ hT hf (ht.ext hW) hm hk (hx.ext hW)
  have hlab : ∀ r ∈ R.filter (letR T), Pairs (w.alloc (.cells #[.int .u64 (vG d 0 : Nat), .int .u64 (vG d 1 : Nat), .int .u64 (vG d 2 : Nat), .int .u64 (vG d 3 : Nat)] 26)) r.2.2.1 r.2.2.2 := fun r hr => (hx.labs r (List.mem_filter.1 hr).1).ext hW
  have hok : ∀ r ∈ R.filter (letR T), OkV r.2.1 := fun r hr => hx.okv r (List.mem_filter.1 hr).1
  generalize R.filter (letR T) = F at *
  obtain ⟨q2, cap2, rfl, _, _⟩ := ht.shape
  have hx0 := hx
  obtain ⟨qx, capx, rfl, _, _⟩ := hx0.shape
  have hN8 : ¬ ((8 : Int) < (N : Int)) := by omega
  unfold vVal vF
  replace C := Lib.hid C
  go_enter Try.func10, Try.ntmps10
  go_wp2_with fail
  refine C.out.mono ?_; rintro e w1 ⟨v1, rfl, ho1, h1⟩
  clear C
  generalize w.alloc (.cells #[.int .u64 (vG d 0 : Nat), .int .u64 (vG d 1 : Nat), .int .u64 (vG d 2 : Nat), .int .u64 (vG d 3 : Nat)] 26) = w0 at *
  obtain ⟨hlen, hrow⟩ := ho1
  rcases hrow with ⟨rfl, hF0⟩ | ⟨g, cap, cur0, rfl, hbg, hg0, hnc, hcm, hcl0, htk0⟩
  · have hFn : F = [] := List.eq_nil_of_length_eq_zero hF0
    subst hFn
    have hno : 0 < N → fitS allS d N [] = none := fun h => (FitAt.start d N []).none h rfl
    have hz : N = 0 → fitS allS d N [] = some [] := fun h => by subst h; rfl
    have CB := kbest_w [] d hd _ w1 (by simp) (Slots.nil w1)
    unfold vVal vF at CB
    obtain ⟨_, z0, z1, z2, z3, _, _, _, _⟩ := (v6.ext h1).four
    replace CB := Lib.hid CB
    replace hno := Lib.hid hno
    replace hz := Lib.hid hz
    go_wp2
    go_loopw [10, 21] (fun t10 i wr => t10 = .slice none 0 0 ∧ i = .int .i64 0 ∧ wr = w1) (fun _ i _ => 0)
    case atStart => exact ⟨rfl, rfl, rfl⟩
    case round =>
      obtain ⟨rfl, rfl, rfl⟩ := hrel
      by_cases h0 : 0 < N
      · go_wp2_with fail
        refine CB.out.mono ?_; rintro e w2 ⟨rfl, h2⟩
        go_wp2
        go_ret2
        exact ⟨.slice none 0 0, by rw [hno.out h0]; rfl, by rw [hno.out h0]; exact Strs.nil _, hW.trans (h1.trans (h2.trans ((Ext.refl _).alloc _)))⟩
      · go_wp2
        go_ret2
        exact ⟨.slice none 0 0, by rw [hz.out (by omega)]; rfl, by rw [hz.out (by omega)]; exact Strs.nil _, hW.trans h1⟩
  · obtain ⟨cl, hcl1⟩ : ∃ cl, cl = cur0.toList := ⟨_, rfl⟩
    have hg1 : w1.heap[g]? = some (.cells cl.toArray 47 (0, 0)) := by rw [hcl1, Array.toArray_toList]; exact hg0
    have hcl2 : cl.length = cap * 6 := by rw [hcl1]; simpa using hcl0
    rw [← hcl1] at htk0
    have hfs := FitAt.start d N F
    replace hfs := Lib.hid hfs
    replace htk0 := Lib.hid htk0
    clear hcl0 hg0 hcl1
    go_wp2
    go_loopw [10, 21] (fun t10 i wr => ∃ (k : Nat) (G : List SlotR) (acc : List ByteArray) (cur : List Value), k ≤ N ∧ i = .int .i64 k ∧ G.length = F.length ∧ acc.length = k ∧ Ext w0 wr ∧ wr.heap[g]? = some (.cells cur.toArray 47 (0, 0)) ∧ cur.length = cap * 6 ∧
      wr.ownsRow w0.heap.size 9 1 t10 k (acc.map .string) ∧ (∀ b, t10.ownBlock = some b → b ≠ g) ∧ Hid (cur.take (F.length * 6) = slotCells G ∧ (∀ r ∈ G, Pairs w0 r.2.2.1 r.2.2.2) ∧ (∀ r ∈ G, OkV r.2.1) ∧ FitAt d N F k G acc)) (fun _ i _ => N - (intOf i).toNat)
    case atStart => exact ⟨0, F, [], cl, by omega, rfl, rfl, rfl, h1, hg1, hcl2, World.ownsRow_nil _ _ _ _, (fun b hb => by cases hb), ⟨htk0.out, hlab, hok, hfs.out⟩⟩
    case round =>
      obtain ⟨k, G, acc, cur, hkN, rfl, hGl, hal, hb, hg, hcl, hown, hap, HH⟩ := hrel
      by_cases hlt : k < N
      · obtain ⟨htk, hlG, hoG, hFA⟩ := HH.out
        have hSl : Slots wr (.slice (some ⟨g, 0, none⟩) F.length cap) G := Slots.of_row (B := w0.heap.size) (e := 47) (n := F.length) ⟨by rw [slotCells_len, hGl], Or.inr ⟨g, cap, cur.toArray, rfl, hbg, hg, hnc, hcm, by simpa using hcl, htk⟩⟩ hGl.symm (fun r hr => (hlG r hr).ext hb) hoG
        have hGl' := Lib.hid hGl
        have CB := kbest_w G d hd _ wr (by omega) hSl
        have hno := fun h => hFA.none hlt h
        have hyes := fun i V h => hFA.some (i := i) (v := V) hlt h
        have hbo := fun i V h => best_ok (f := allS) (d := d) (G := G) (i := i) (v := V) h hoG
        have hbl := fun i V h => bestS_lt (f := allS) (d := d) (l := G) (i := i) (v := V) h
        obtain ⟨_, z0, z1, z2, z3, _, _, _, _⟩ := (v6.ext hb).four
        clear HH hFA
        cases hB : bestS allS d G with
        | none =>
          have hS := Lib.hid (hno hB)
          rw [hB] at CB
          simp only [bI, bV, Option.isSome_none] at CB
          unfold vVal vF at CB
          replace CB := Lib.hid CB
          clear hno hyes hbo hbl hB htk
          go_wp2_with fail
          refine CB.out.mono ?_; rintro e w2 ⟨rfl, h2⟩
          go_wp2
          go_ret2
          exact ⟨.slice none 0 0, by rw [hS.out]; rfl, by rw [hS.out]; exact Strs.nil _, hW.trans (hb.trans (h2.trans ((Ext.refl _).alloc _)))⟩
        | some qb =>
          obtain ⟨i, V⟩ := qb
          have hF1 := Lib.hid (hyes i V hB)
          have hOV := hbo i V hB
          have hiG := hbl i V hB
          have hiF : i < F.length := by omega
          rw [hB] at CB
          simp only [bI, bV, Option.isSome_some] at CB
          unfold vVal vF at CB
          replace CB := Lib.hid CB
          have hSl' : Slots wr (.slice (some ⟨g, 0, none⟩) G.length cap) G := by rw [hGl]; exact hSl
          obtain ⟨gb, go, hge, hgl, hcs⟩ := hSl'.at hiG
          injection hge with hge
          injection hge with hge1 hge2
          subst hge1 hge2
          have c0 := hcs 0 (by omega)
          simp only [slotOne, vAt, List.getElem?_cons_zero, Nat.add_zero, Nat.zero_add] at c0
          clear hcs hSl'
          clear hno hyes hbo hbl hB
          go_wp2_with fail
          refine CB.out.mono ?_; rintro e w2 ⟨rfl, h2⟩
          have ha3 := h2.trans ((Ext.refl w2).alloc (.cells #[.int .u64 (vG V 0 : Nat), .int .u64 (vG V 1 : Nat), .int .u64 (vG V 2 : Nat), .int .u64 (vG V 3 : Nat)] 26))
          have v12 := VBox.new w2 (vG V) 26
          have hgs2 : wr.heap.size ≤ w2.heap.size := h2.size
          have c0a : (w2.alloc (.cells #[.int .u64 (vG V 0 : Nat), .int .u64 (vG V 1 : Nat), .int .u64 (vG V 2 : Nat), .int .u64 (vG V 3 : Nat)] 26)).cell? ⟨g, i * 6, none⟩ = some (.string (slAt G i).1) := by rw [ha3.cell (by exact hgl)]; exact c0
          have hE3 := hb.trans ha3
          have hown3 := Ext.row hown ha3
          have hg3 := Ext.heap hg ha3
          have hvb := fun bb e => (World.ownsRow.lt hown bb e).2
          have hn12 := fun e => Nat.lt_irrefl _ (Nat.lt_of_lt_of_le (hvb w2.heap.size e) hgs2)
          have hE4 := hE3.trans ((Ext.refl _).alloc (.cells #[.string (slAt G i).1] 9))
          have ho4 := Ext.row hown3 ((Ext.refl _).alloc (.cells #[.string (slAt G i).1] 9))
          have hg4 := Ext.heap hg3 ((Ext.refl _).alloc (.cells #[.string (slAt G i).1] 9))
          have hl4 := Sl.lit (w2.alloc (.cells #[.int .u64 (vG V 0 : Nat), .int .u64 (vG V 1 : Nat), .int .u64 (vG V 2 : Nat), .int .u64 (vG V 3 : Nat)] 26)) 9 1 1 #[.string (slAt G i).1] rfl (by simp [maxLen])
          rw [World.size_alloc] at hl4
          have v12b := v12.ext ((Ext.refl _).alloc (.cells #[.string (slAt G i).1] 9))
          have hone1 : ∀ u ∈ (#[Value.string (slAt G i).1] : Array Value).toList, u.oneCell' = true := fun u hu => by simp at hu; subst hu; rfl
          have hone4 : ∀ u ∈ [vAt V 0, vAt V 1, vAt V 2, vAt V 3], u.oneCell' = true := fun u hu => by
            simp only [List.mem_cons, List.not_mem_nil, or_false] at hu
            rcases hu with rfl | rfl | rfl | rfl <;> rfl
          have hfit : i * 6 + 1 + 4 ≤ cur.length := by omega
          generalize hnm : (slAt G i).1 = node at *
          clear hown hown3 hg hg3 z0 z1 z2 z3 c0 hnm
          go_wp2_with (first
            | (at_builtin
               refine wpList_appO rfl _ _ Try.slStr rfl hE4.size rfl ho4 rfl hl4 (by omega) hone1 (by omega) ?_
               intro v5 w5 ho5 hg5 hor5
               have hX5 : Ext w0 w5 := hE4.app ho4 hg5 (Nat.le_refl _)
               have hg5h := hg5.block g (Array.getElem?_eq_some_iff.1 hg4).1 (fun e => hap g e.symm rfl)
               have hg5g : w5.heap[g]? = some (.cells cur.toArray 47 (0, 0)) := by rw [hg5h]; exact hg4
               have x0 := hg5.cell (v12b.cell 0 (by omega)) (fun e => hn12 e.symm)
               have x1 := hg5.cell (v12b.cell 1 (by omega)) (fun e => hn12 e.symm)
               have x2 := hg5.cell (v12b.cell 2 (by omega)) (fun e => hn12 e.symm)
               have x3 := hg5.cell (v12b.cell 3 (by omega)) (fun e => hn12 e.symm))
            | (refine wpList_store_at rfl _ _ _ rfl (g := g) (off := i * 6 + 1) (cells := [vAt V 0, vAt V 1, vAt V 2, vAt V 3]) rfl rfl rfl (by kernel_rfl) hg5g hfit hone4 ?_
               intro w6 hg6 hgr6))
          have hapv : ∀ b, v5.ownBlock = some b → b ≠ g := fun b hb e => by
            rcases hor5 with h | h
            · exact hap b (h ▸ hb) e
            · rw [h] at hb
              injection hb with hb
              simp only [World.size_alloc] at hb
              omega
          have hlen4 : i * 6 + 1 + [vAt V 0, vAt V 1, vAt V 2, vAt V 3].length ≤ cur.length := hfit
          refine ⟨⟨k + 1, G.set i (setFree (slAt G i) V), acc ++ [node], _, by omega, by simp, by rw [List.length_set]; exact hGl'.out, by rw [List.length_append, hal]; rfl, hX5.put hgr6 hbg, hg6, by rw [length_splice _ _ _ hlen4]; exact hcl,
            row_grown (by rw [List.map_append]; exact ho5) hgr6 (fun b hb e => hapv b hb (by injection e with e; exact e.symm)), hapv, ⟨?_, fun r hr => ?_, fun r hr => ?_, hF1.out⟩⟩, by simp [intOf]; omega⟩
          · rw [splice_take _ _ (by show i * 6 + 1 + 4 ≤ _; omega) (by rw [hcl]; exact Nat.mul_le_mul_right _ hnc), htk, slotCells_set hiG V]
          · rcases set_mem hr with h | h
            · exact hlG r h
            · rw [h]; exact hlG (slAt G i) (slAt_mem hiG)
          · rcases set_mem hr with h | h
            · exact hoG r h
            · rw [h]; exact hOV
      · obtain rfl : k = N := by omega
        obtain ⟨_, _, _, hFA⟩ := HH.out
        have hS := Lib.hid hFA.end
        have hvo := Sl.of_owns hown
        clear HH hFA
        go_wp2
        go_ret2
        refine ⟨_, by rw [hS.out]; rfl, ?_, hW.trans hb⟩
        rw [hS.out]
        show Sl _ 1 _ acc.length _
        rw [hal]
        exact hvo

/-- P13.2: what is told of so many. -/
def fitI (f : SlotR → Bool) (d : Vc) (n : Int) (l : List SlotR) : Option (List ByteArray) := if 8 < n then none else fitS f d n.toNat l

set_option maxHeartbeats 1000000 in
set_option maxRecDepth 100000 in
theorem kfit_w (T : List RowS) (R : List SlotR) (v vx : Value) (d : Vc) (hd : OkV d) (n : Int) (w : World) (hT : T.length ≤ 35184372088832) (hf : FitR T) (ht : Terms w vx T) (hm : R.length * 72 ≤ 140737488355328) (hk : FitK R) (hx : Slots w v R) :
    Calls Try.prog 10 #[v, vx, vVal d, .int .i64 n] w fun e w' => ∃ vo, e = .returned (.tuple #[vo, .bool (fitI (letR T) d n R).isSome]) ∧ Strs w' vo ((fitI (letR T) d n R).getD []) ∧ Ext w w' := by
  by_cases h8 : 8 < n
  · have hI : fitI (letR T) d n R = none := by unfold fitI; rw [if_pos h8]
    rw [hI]
    unfold vVal vF
    obtain ⟨q2, cap2, rfl, _, _⟩ := ht.shape
    obtain ⟨qx, capx, rfl, _, _⟩ := hx.shape
    go_enter Try.func10, Try.ntmps10
    go_wp2
    go_ret2
    exact ⟨_, rfl, Strs.nil _, (Ext.refl _).alloc _⟩
  · by_cases h0 : n < 0
    · have hI : fitI (letR T) d n R = some [] := by unfold fitI; rw [if_neg h8, show n.toNat = 0 by omega]; rfl
      rw [hI]
      have hW : Ext w (w.alloc (.cells #[.int .u64 (vG d 0 : Nat), .int .u64 (vG d 1 : Nat), .int .u64 (vG d 2 : Nat), .int .u64 (vG d 3 : Nat)] 26)) := (Ext.refl _).alloc _
      have C := kfitting_w T R v vx _ hT hf (ht.ext hW) hm hk (hx.ext hW)
      unfold vVal vF
      obtain ⟨q2, cap2, rfl, _, _⟩ := ht.shape
      have hx0 := hx
      obtain ⟨qx, capx, rfl, _, _⟩ := hx0.shape
      replace C := Lib.hid C
      go_enter Try.func10, Try.ntmps10
      go_wp2_with fail
      refine C.out.mono ?_; rintro e w1 ⟨v1, rfl, ho1, h1⟩
      have hsh : ∃ q cap, v1 = .slice q (R.filter (letR T)).length cap := by
        obtain ⟨p, cap, h, _⟩ := Sl.shape (Sl.of_owns ho1)
        exact ⟨p, cap, h⟩
      obtain ⟨q, cap, rfl⟩ := hsh
      clear C ho1
      go_wp2
      go_loopw [10, 21] (fun t10 i wr => t10 = .slice none 0 0 ∧ i = .int .i64 0 ∧ wr = w1) (fun _ i _ => 0)
      case atStart => exact ⟨rfl, rfl, rfl⟩
      case round =>
        obtain ⟨rfl, rfl, rfl⟩ := hrel
        go_wp2
        go_ret2
        exact ⟨_, rfl, Strs.nil _, hW.trans h1⟩
    · obtain ⟨N, rfl⟩ : ∃ N : Nat, n = N := ⟨n.toNat, by omega⟩
      have hI : fitI (letR T) d N R = fitS (letR T) d N R := by unfold fitI; rw [if_neg h8, Int.toNat_natCast]
      rw [hI]
      exact kfitN_w T R v vx d hd N (by omega) w hT hf ht hm hk hx

theorem kroom_w (T : List RowS) (R : List SlotR) (v vx : Value) (d : Vc) (hd : OkV d) (m : Int) (hm64 : m ≤ 9223372036854775807) (w : World) (hT : T.length ≤ 35184372088832) (hf : FitR T) (ht : Terms w vx T) (hm : R.length * 72 ≤ 140737488355328) (hk : FitK R) (hx : Slots w v R) :
    Calls Try.prog 16 #[v, vx, vVal d, .int .i64 m] w fun e w' => e = .returned (.int .i64 (roomS (letR T) d m.toNat R : Nat)) ∧ Ext w w' :=
  kroomN_w T R v vx d hd m m.toNat (by omega) (by omega) w hT hf ht hm hk hx

end Go.Proofs.Ytibimbcjnjefdaa

namespace Go.Dm
open Go Go.RowKit
structure SR (b o : Nat) (node : ByteArray) (V : Nat → Nat) (lv : Value) (w : World) : Prop where
  lt : b < w.heap.size
  c0 : w.cell? ⟨b, o, none⟩ = some (.string node)
  c1 : w.cell? ⟨b, o + 1, none⟩ = some (.int .u64 (V 0 : Nat))
  c2 : w.cell? ⟨b, o + 2, none⟩ = some (.int .u64 (V 1 : Nat))
  c3 : w.cell? ⟨b, o + 3, none⟩ = some (.int .u64 (V 2 : Nat))
  c4 : w.cell? ⟨b, o + 4, none⟩ = some (.int .u64 (V 3 : Nat))
  c5 : w.cell? ⟨b, o + 5, none⟩ = some lv
theorem SR.ext {b o : Nat} {node : ByteArray} {V : Nat → Nat} {lv : Value} {w w' : World} (h : SR b o node V lv w) (hx : Ext w w') : SR b o node V lv w' := by
  have hc : ∀ {i : Nat} {u}, w.cell? ⟨b, i, none⟩ = some u → w'.cell? ⟨b, i, none⟩ = some u := fun {i u} e => by rw [hx.cell (by exact h.lt)]; exact e
  exact ⟨Nat.lt_of_lt_of_le h.lt hx.size, hc h.c0, hc h.c1, hc h.c2, hc h.c3, hc h.c4, hc h.c5⟩
theorem SR.vr {b o : Nat} {node : ByteArray} {V : Nat → Nat} {lv : Value} {w : World} (h : SR b o node V lv w) : VR b o V w := ⟨h.lt, h.c1, h.c2, h.c3, h.c4⟩
theorem Slots.sr {w : World} {xs : List SlotR} {p cap} (h : Slots w (.slice p xs.length cap) xs) {k : Nat} (hk : k < xs.length) :
    ∃ b off, p = some ⟨b, off, none⟩ ∧ SR b (off + k*6) (slAt xs k).1 (vG (slAt xs k).2.1) (slAt xs k).2.2.1 w := by
  obtain ⟨b, off, hp, hb, hc⟩ := h.at hk
  exact ⟨b, off, hp, hb, hc 0 (by omega), hc 1 (by omega), hc 2 (by omega), hc 3 (by omega), hc 4 (by omega), hc 5 (by omega)⟩
end Go.Dm
