/- Chapter 13: the walks of fitting, Room, best. -/
import Derived.Test.YtibimbcjnjefdaaPkWalkB
import Derived.Test.YtibimbcjnjefdaaDrawF
namespace Go.Dm
open Go Go.RowKit

/-- An amount's four cells are written. -/
def put4 (w : World) (b : Nat) (V : Nat → Nat) : World :=
  (((w.setCell ⟨b, 0, none⟩ (.int .u64 (V 0 : Nat))).setCell ⟨b, 1, none⟩ (.int .u64 (V 1 : Nat))).setCell ⟨b, 2, none⟩ (.int .u64 (V 2 : Nat))).setCell ⟨b, 3, none⟩ (.int .u64 (V 3 : Nat))
theorem put4_size (w : World) (b : Nat) (V : Nat → Nat) : (put4 w b V).heap.size = w.heap.size := by simp [put4]
theorem VBox.put {b : Nat} {A : Nat → Nat} {w : World} (h : VBox b A w) (V : Nat → Nat) : VBox b V (put4 w b V) :=
  ((((h.set (k := 0) (v := V 0) (by omega)).set (k := 1) (v := V 1) (by omega)).set (k := 2) (v := V 2) (by omega)).set (k := 3) (v := V 3) (by omega)).congr fun j hj => by
    match j, hj with
    | 0, _ => simp
    | 1, _ => simp
    | 2, _ => simp
    | 3, _ => simp
theorem VBox.put_far {b c : Nat} {A : Nat → Nat} {w : World} (h : VBox b A w) (hc : c ≠ b) (V : Nat → Nat) : VBox b A (put4 w c V) :=
  (((h.far hc _).far hc _).far hc _).far hc _
theorem Ext.put4 {w w' : World} (h : Ext w w') {b : Nat} (hb : w.heap.size ≤ b) (V : Nat → Nat) : Ext w (put4 w' b V) :=
  (((h.setCell (p := ⟨b, 0, none⟩) hb _).setCell (p := ⟨b, 1, none⟩) hb _).setCell (p := ⟨b, 2, none⟩) hb _).setCell (p := ⟨b, 3, none⟩) hb _
/-- The four cells, one by one. -/
structure V4 (b : Nat) (A : Nat → Nat) (w : World) : Prop where
  lt : b < w.heap.size
  c0 : w.cell? ⟨b, 0, none⟩ = some (.int .u64 (A 0 : Nat))
  c1 : w.cell? ⟨b, 1, none⟩ = some (.int .u64 (A 1 : Nat))
  c2 : w.cell? ⟨b, 2, none⟩ = some (.int .u64 (A 2 : Nat))
  c3 : w.cell? ⟨b, 3, none⟩ = some (.int .u64 (A 3 : Nat))
  f0 : w.frozen? ⟨b, 0, none⟩ = false
  f1 : w.frozen? ⟨b, 1, none⟩ = false
  f2 : w.frozen? ⟨b, 2, none⟩ = false
  f3 : w.frozen? ⟨b, 3, none⟩ = false
theorem VBox.four {b : Nat} {A : Nat → Nat} {w : World} (h : VBox b A w) : V4 b A w :=
  ⟨h.lt, h.cell 0 (by omega), h.cell 1 (by omega), h.cell 2 (by omega), h.cell 3 (by omega), h.free 0 (by omega), h.free 1 (by omega), h.free 2 (by omega), h.free 3 (by omega)⟩
theorem V4.ext {b : Nat} {A : Nat → Nat} {w w' : World} (h : V4 b A w) (hx : Ext w w') : V4 b A w' := by
  have hc : ∀ {i : Nat} {u}, w.cell? ⟨b, i, none⟩ = some u → w'.cell? ⟨b, i, none⟩ = some u := fun {i u} e => by rw [hx.cell (by exact h.lt)]; exact e
  have hf : ∀ {i : Nat}, w.frozen? ⟨b, i, none⟩ = false → w'.frozen? ⟨b, i, none⟩ = false := fun {i} e => by rw [hx.frozen (by exact h.lt)]; exact e
  exact ⟨Nat.lt_of_lt_of_le h.lt hx.size, hc h.c0, hc h.c1, hc h.c2, hc h.c3, hf h.f0, hf h.f1, hf h.f2, hf h.f3⟩
/-- An amount that stands in a slot. -/
structure VR (b o : Nat) (A : Nat → Nat) (w : World) : Prop where
  lt : b < w.heap.size
  c0 : w.cell? ⟨b, o + 1, none⟩ = some (.int .u64 (A 0 : Nat))
  c1 : w.cell? ⟨b, o + 2, none⟩ = some (.int .u64 (A 1 : Nat))
  c2 : w.cell? ⟨b, o + 3, none⟩ = some (.int .u64 (A 2 : Nat))
  c3 : w.cell? ⟨b, o + 4, none⟩ = some (.int .u64 (A 3 : Nat))
theorem VR.ext {b o : Nat} {A : Nat → Nat} {w w' : World} (h : VR b o A w) (hx : Ext w w') : VR b o A w' := by
  have hc : ∀ {i : Nat} {u}, w.cell? ⟨b, i, none⟩ = some u → w'.cell? ⟨b, i, none⟩ = some u := fun {i u} e => by rw [hx.cell (by exact h.lt)]; exact e
  exact ⟨Nat.lt_of_lt_of_le h.lt hx.size, hc h.c0, hc h.c1, hc h.c2, hc h.c3⟩
theorem Slots.free {w : World} {xs : List SlotR} {p cap} (h : Slots w (.slice p xs.length cap) xs) {k : Nat} (hk : k < xs.length) :
    ∃ b off, p = some ⟨b, off, none⟩ ∧ VR b (off + k*6) (vG (slAt xs k).2.1) w := by
  obtain ⟨b, off, hp, hb, hc⟩ := h.at hk
  exact ⟨b, off, hp, hb, hc 1 (by omega), hc 2 (by omega), hc 3 (by omega), hc 4 (by omega)⟩
theorem VR.far_put {b o c : Nat} {A : Nat → Nat} {w : World} (h : VR b o A w) (hc : c ≠ b) (V : Nat → Nat) : VR b o A (put4 w c V) := by
  have hn : ∀ {i j : Nat}, (⟨c, i, none⟩ : Addr) ≠ ⟨b, j, none⟩ := fun {i j} e => by injection e with e; exact hc e
  have hq : ∀ {j : Nat} {u}, w.cell? ⟨b, j, none⟩ = some u → (put4 w c V).cell? ⟨b, j, none⟩ = some u := fun {j u} e => by
    unfold put4
    rw [World.cell?_setCell_other (h := hn), World.cell?_setCell_other (h := hn), World.cell?_setCell_other (h := hn), World.cell?_setCell_other (h := hn)]
    exact e
  exact ⟨by rw [put4_size]; exact h.lt, hq h.c0, hq h.c1, hq h.c2, hq h.c3⟩
def bI : Option (Nat × Vc) → Nat | none => 0 | some (i, _) => i
def bV : Option (Nat × Vc) → Vc | none => noV | some (_, v) => v
end Go.Dm
namespace Go.Proofs.Ytibimbcjnjefdaa
open Go.RowKit Go.Dm

set_option maxHeartbeats 1000000 in
set_option maxRecDepth 100000 in
theorem kfitting_w (T : List RowS) (R : List SlotR) (v vx : Value) (w : World) (hT : T.length ≤ 35184372088832) (hf : FitR T) (ht : Terms w vx T) (hm : R.length * 72 ≤ 140737488355328) (hk : FitK R) (hx : Slots w v R) :
    Calls Try.prog 22 #[v, vx] w fun e w' => ∃ v', e = .returned v' ∧ w'.ownsRow w.heap.size 47 6 v' (R.filter (letR T)).length (slotCells (R.filter (letR T))) ∧ Ext w w' := by
  obtain ⟨q2, cap2, rfl, _, _⟩ := ht.shape
  have hmf : ∀ (fn : Fn) (first cap : Array Value) (w : World), (Instr.makeFunc fn first cap).run Try.prog w = .ok (.func fn first cap) w := fun _ _ _ _ => rfl
  have hW : Ext w (w.alloc (.cells #[.slice q2 T.length cap2] 23)) := (Ext.refl _).alloc _
  have C1 := kclone_w R v _ hm (hx.ext hW)
  have C2 := fun (w1 : World) (v1 : Value) (h1 : Ext (w.alloc (.cells #[.slice q2 T.length cap2] 23)) w1) ho => kdelete_w T R v1 (.slice q2 T.length cap2) w.heap.size 0 (w.alloc (.cells #[.slice q2 T.length cap2] 23)) w1 hT hf (ht.ext hW) (by omega) hk
    (fun r hr => (hx.ext hW).labs r hr) hx.okv h1 ho (by simp) (by simp)
  replace C1 := Lib.hid C1
  replace C2 := Lib.hid C2
  go_enter Try.func22, Try.ntmps22
  go_wp2_with fail
  refine C1.out.mono ?_; rintro e w1 ⟨v1, rfl, ho1, h1⟩
  go_wp2_with fail
  refine (C2.out _ _ h1 ho1).mono ?_; rintro e w2 ⟨v2, rfl, ho2, h2⟩
  go_wp2
  go_ret
  exact ⟨_, rfl, rowMono ho2 (by simp), hW.trans h2⟩

set_option maxHeartbeats 4000000 in
set_option maxRecDepth 100000 in
theorem kbest_w (F : List SlotR) (d : Vc) (hd : OkV d) (v : Value) (w : World) (hm : F.length ≤ 35184372088832) (hx : Slots w v F) :
    Calls Try.prog 23 #[v, vVal d] w fun e w' => e = .returned (.tuple #[.int .i64 (bI (bestS allS d F) : Nat), vVal (bV (bestS allS d F)), .bool (bestS allS d F).isSome]) ∧ Ext w w' := by
  obtain ⟨q, cap, rfl, _, _⟩ := hx.shape
  unfold vVal
  have hVs := fun (a : Vc) (ha : OkV a) w => vsub_w a d ha hd w
  unfold vVal at hVs
  go_enter Try.func23, Try.ntmps23
  unfold vF
  go_wp2
  go_loopw [4, 6, 12] (fun t4 t6 i wr => ∃ (k : Nat) (s : Option (Nat × Vc)), k ≤ F.length ∧ i = .int .i64 k ∧ t4 = .int .i64 (bI s : Nat) ∧ t6 = .bool s.isSome ∧ Ext w wr ∧ VBox w.heap.size (vG d) wr ∧ VBox (w.heap.size + 1) (vG (bV s)) wr ∧ OkV (bV s) ∧ Hid (bestF allS d F k = s)) (fun _ _ i _ => F.length - (intOf i).toNat)
  case atStart =>
    refine ⟨0, none, by omega, rfl, rfl, rfl, ((Ext.refl w).alloc _).alloc _, (VBox.new w (vG d) _).ext ((Ext.refl _).alloc _), ?_, okV_no, rfl⟩
    have h := VBox.new (w.alloc (.cells #[.int .u64 (vG d 0 : Nat), .int .u64 (vG d 1 : Nat), .int .u64 (vG d 2 : Nat), .int .u64 (vG d 3 : Nat)] 26)) (vG noV) 26
    rw [World.size_alloc] at h
    exact h
  case round =>
    obtain ⟨k, s, hk, rfl, rfl, rfl, hb, v3, v5, hOs, HB⟩ := hrel
    by_cases hlt : k < F.length
    · obtain ⟨b, off, rfl, hR⟩ := (hx.ext hb).free hlt
      have hok := hx.ok hlt
      have hstep : bestF allS d F (k + 1) = bestStep allS d (bestF allS d F k) k (slAt F k) := rfl
      rw [HB.out] at hstep
      unfold bestStep at hstep
      simp only [allS, Bool.true_and] at hstep
      have CS := hVs (slAt F k).2.1 hok
      generalize (slAt F k).2.1 = fr at *
      have hVo : OkV (vOr (vfits d fr) (vsub fr d)) := by
        cases vfits d fr with
        | false => exact okV_no
        | true => exact vsub_ok hok
      have hVt : vfits d fr = true → vOr (vfits d fr) (vsub fr d) = vsub fr d := fun h => by rw [h]; rfl
      generalize vOr (vfits d fr) (vsub fr d) = V at *
      generalize vsub fr d = V' at *
      generalize vfits d fr = c at *
      have HI : VR b (off + k * 6) (vG fr) wr ∧ V4 w.heap.size (vG d) wr := ⟨hR, v3.four⟩
      unfold vF at CS
      replace CS := Lib.hid CS
      replace hstep := Lib.hid hstep
      replace hVt := Lib.hid hVt
      go_wp2_with fail
      try simp only [Act.put, List.setIfInBounds_toArray, List.set_cons_succ, List.set_cons_zero]
      refine Dm.wp_region_fin (I := (fun U => VR b (off + k * 6) (vG fr) U ∧ V4 w.heap.size (vG d) U)) (z := 12) 13 (Dm.bits 13 0) (by kernel_rfl) (by kernel_rfl) (by kernel_rfl) ?_
      refine Dm.wpF_take (i := 0) (listed' := (Dm.bits 13 1)) (fun _ _ h hx => ⟨h.1.ext hx, V4.ext h.2 hx⟩) HI (by kernel_rfl) (by kernel_rfl) rfl (fun _ _ _ _ h => h) ?_; apply Exists.intro; refine And.intro (fun wq hwq => ?_) ?_
      · obtain ⟨⟨_, a0, a1, a2, a3⟩, ⟨_, b0, b1, b2, b3, _, _, _, _⟩⟩ := hwq; go_big_quiet_step (((go_at_call 19; exact Calls.quietE (CS.out _)))); exact wpQuiet_nil rfl
      refine Dm.wpF_take (i := 1) (listed' := (Dm.bits 13 3)) (fun _ _ h hx => ⟨h.1.ext hx, V4.ext h.2 hx⟩) HI (by kernel_rfl) (by kernel_rfl) rfl (fun _ _ _ _ h => h) ?_; apply Exists.intro; refine And.intro (fun wq hwq => ?_) ?_
      · obtain ⟨⟨_, a0, a1, a2, a3⟩, ⟨_, b0, b1, b2, b3, _, _, _, _⟩⟩ := hwq; go_big_quiet_step (((go_at_call 19; exact Calls.quietE (CS.out _)))); exact wpQuiet_nil rfl
      refine Dm.wpF_take (i := 2) (listed' := (Dm.bits 13 7)) (fun _ _ h hx => ⟨h.1.ext hx, V4.ext h.2 hx⟩) HI (by kernel_rfl) (by kernel_rfl) rfl (fun _ _ _ _ h => h) ?_; apply Exists.intro; refine And.intro (fun wq hwq => ?_) ?_
      · obtain ⟨⟨_, a0, a1, a2, a3⟩, ⟨_, b0, b1, b2, b3, _, _, _, _⟩⟩ := hwq; go_big_quiet_step (((go_at_call 19; exact Calls.quietE (CS.out _)))); exact wpQuiet_nil rfl
      refine Dm.wpF_take (i := 3) (listed' := (Dm.bits 13 15)) (fun _ _ h hx => ⟨h.1.ext hx, V4.ext h.2 hx⟩) HI (by kernel_rfl) (by kernel_rfl) rfl (fun _ _ _ _ h => h) ?_; apply Exists.intro; refine And.intro (fun wq hwq => ?_) ?_
      · obtain ⟨⟨_, a0, a1, a2, a3⟩, ⟨_, b0, b1, b2, b3, _, _, _, _⟩⟩ := hwq; go_big_quiet_step (((go_at_call 19; exact Calls.quietE (CS.out _)))); exact wpQuiet_nil rfl
      refine Dm.wpF_take (i := 4) (listed' := (Dm.bits 13 31)) (fun _ _ h hx => ⟨h.1.ext hx, V4.ext h.2 hx⟩) HI (by kernel_rfl) (by kernel_rfl) rfl (fun _ _ _ _ h => h) ?_; apply Exists.intro; refine And.intro (fun wq hwq => ?_) ?_
      · obtain ⟨⟨_, a0, a1, a2, a3⟩, ⟨_, b0, b1, b2, b3, _, _, _, _⟩⟩ := hwq; go_big_quiet_step (((go_at_call 19; exact Calls.quietE (CS.out _)))); exact wpQuiet_nil rfl
      refine Dm.wpF_take (i := 5) (listed' := (Dm.bits 13 63)) (fun _ _ h hx => ⟨h.1.ext hx, V4.ext h.2 hx⟩) HI (by kernel_rfl) (by kernel_rfl) rfl (fun _ _ _ _ h => h) ?_; apply Exists.intro; refine And.intro (fun wq hwq => ?_) ?_
      · obtain ⟨⟨_, a0, a1, a2, a3⟩, ⟨_, b0, b1, b2, b3, _, _, _, _⟩⟩ := hwq; go_big_quiet_step (((go_at_call 19; exact Calls.quietE (CS.out _)))); exact wpQuiet_nil rfl
      refine Dm.wpF_take (i := 6) (listed' := (Dm.bits 13 127)) (fun _ _ h hx => ⟨h.1.ext hx, V4.ext h.2 hx⟩) HI (by kernel_rfl) (by kernel_rfl) rfl (fun _ _ _ _ h => h) ?_; apply Exists.intro; refine And.intro (fun wq hwq => ?_) ?_
      · obtain ⟨⟨_, a0, a1, a2, a3⟩, ⟨_, b0, b1, b2, b3, _, _, _, _⟩⟩ := hwq; go_big_quiet_step (((go_at_call 19; exact Calls.quietE (CS.out _)))); exact wpQuiet_nil rfl
      refine Dm.wpF_take (i := 7) (listed' := (Dm.bits 13 255)) (fun _ _ h hx => ⟨h.1.ext hx, V4.ext h.2 hx⟩) HI (by kernel_rfl) (by kernel_rfl) rfl (fun _ _ _ _ h => h) ?_; apply Exists.intro; refine And.intro (fun wq hwq => ?_) ?_
      · obtain ⟨⟨_, a0, a1, a2, a3⟩, ⟨_, b0, b1, b2, b3, _, _, _, _⟩⟩ := hwq; go_big_quiet_step (((go_at_call 19; exact Calls.quietE (CS.out _)))); exact wpQuiet_nil rfl
      refine Dm.wpF_take (i := 8) (listed' := (Dm.bits 13 511)) (fun _ _ h hx => ⟨h.1.ext hx, V4.ext h.2 hx⟩) HI (by kernel_rfl) (by kernel_rfl) rfl (fun _ _ _ _ h => h) ?_; apply Exists.intro; refine And.intro (fun wq hwq => ?_) ?_
      · obtain ⟨⟨_, a0, a1, a2, a3⟩, ⟨_, b0, b1, b2, b3, _, _, _, _⟩⟩ := hwq; go_big_quiet_step (((go_at_call 19; exact Calls.quietE (CS.out _)))); exact wpQuiet_nil rfl
      refine Dm.wpF_take (i := 9) (listed' := (Dm.bits 13 1023)) (fun _ _ h hx => ⟨h.1.ext hx, V4.ext h.2 hx⟩) HI (by kernel_rfl) (by kernel_rfl) rfl (fun _ _ _ _ h => h) ?_; apply Exists.intro; refine And.intro (fun wq hwq => ?_) ?_
      · obtain ⟨⟨_, a0, a1, a2, a3⟩, ⟨_, b0, b1, b2, b3, _, _, _, _⟩⟩ := hwq; go_big_quiet_step (((go_at_call 19; exact Calls.quietE (CS.out _)))); exact wpQuiet_nil rfl
      refine Dm.wpF_one (i := 10) (listed' := (Dm.bits 13 2047)) (by kernel_rfl) (by kernel_rfl) rfl (fun wm10 hxm10 => ?_)
      have ha := hxm10.trans ((Ext.refl wm10).alloc (.cells #[.int .u64 (0 : Nat), .int .u64 (0 : Nat), .int .u64 (0 : Nat), .int .u64 (0 : Nat)] 26))
      have v8 := VBox.new wm10 (fun _ => 0) 26
      have hz8 : w.heap.size + 2 ≤ wm10.heap.size ∧ b < wm10.heap.size := by have := v5.lt; have := hR.lt; have := hxm10.size; omega
      have b5a := (v5.ext ha)
      have b3a := (v3.ext ha)
      have hba := hb.trans ha
      have HIa : VR b (off + k * 6) (vG fr) (wm10.alloc (.cells #[.int .u64 (0 : Nat), .int .u64 (0 : Nat), .int .u64 (0 : Nat), .int .u64 (0 : Nat)] 26)) ∧ V4 w.heap.size (vG d) (wm10.alloc (.cells #[.int .u64 (0 : Nat), .int .u64 (0 : Nat), .int .u64 (0 : Nat), .int .u64 (0 : Nat)] 26)) := ⟨hR.ext ha, v3.four.ext ha⟩
      go_wp2_with fail
      generalize wm10.heap.size = B8 at *
      generalize wm10.alloc (.cells #[.int .u64 (0 : Nat), .int .u64 (0 : Nat), .int .u64 (0 : Nat), .int .u64 (0 : Nat)] 26) = w6 at *
      refine ⟨(by first | exact HIa | exact fun _ => HIa), ?_⟩
      replace HI := HIa
      try simp only [Act.put, List.setIfInBounds_toArray, List.set_cons_succ, List.set_cons_zero]
      refine Dm.wpF_one (i := 11) (listed' := (Dm.bits 13 4095)) (by kernel_rfl) (by kernel_rfl) rfl (fun wm11 hxm11 => ?_)
      have v8b := (v8.ext hxm11).put (vG V)
      have v5b := (v5.ext (ha.trans hxm11)).put_far (c := B8) (by omega) (vG V)
      have v3b := (v3.ext (ha.trans hxm11)).put_far (c := B8) (by omega) (vG V)
      have hbb := (hb.trans (ha.trans hxm11)).put4 (b := B8) (by omega) (vG V)
      have HIb : VR b (off + k * 6) (vG fr) (put4 wm11 B8 (vG V)) ∧ V4 w.heap.size (vG d) (put4 wm11 B8 (vG V)) := ⟨(hR.ext (ha.trans hxm11)).far_put (by omega) (vG V), v3b.four⟩
      obtain ⟨_, z0, z1, z2, z3, y0, y1, y2, y3⟩ := (v8.ext hxm11).four
      go_wp2_with fail
      clear z0 z1 z2 z3 y0 y1 y2 y3
      change (_ → VR b (off + k * 6) (vG fr) (put4 wm11 B8 (vG V)) ∧ V4 w.heap.size (vG d) (put4 wm11 B8 (vG V))) ∧ wpF _ _ _ _ _ _ _ _ _ (put4 wm11 B8 (vG V))
      generalize put4 wm11 B8 (vG V) = w7 at *
      refine ⟨(by first | exact HIb | exact fun _ => HIb), ?_⟩
      replace HI := HIb
      try simp only [Act.put, List.setIfInBounds_toArray, List.set_cons_succ, List.set_cons_zero]
      refine Dm.wpF_one (i := 12) (listed' := (Dm.bits 13 8191)) (by kernel_rfl) (by kernel_rfl) rfl (fun wz hxz => ?_)
      skip
      go_wp2_with fail
      first | refine ⟨fun h => absurd rfl h, ?_⟩ | skip
      refine Dm.wpF_done (by kernel_rfl) (fun wy hxy => ?_)
      have hby := hbb.trans (hxz.trans hxy)
      have v3y := v3b.ext (hxz.trans hxy)
      have v5y := v5b.ext (hxz.trans hxy)
      have v8y := v8b.ext (hxz.trans hxy)
      clear HI HIb hbb v3b v5b v8b v8 b5a b3a hba HIa ha hxz hxy hR CS
      cases c with
      | false =>
        have hst2 : Hid (bestF allS d F (k + 1) = s) := by
          show _ = _
          rw [hstep.out]; rfl
        clear hstep
        go_wp2
        go_roundw
        case rel => exact ⟨k + 1, s, by omega, by go_num, rfl, rfl, hby, v3y, v5y, hOs, hst2⟩
        case measure => simp [intOf]; omega
      | true =>
        have hVV := hVt.out rfl
        subst hVV
        clear hVt
        cases s with
        | none =>
          have hst2 : Hid (bestF allS d F (k + 1) = some (k, V)) := by
            show _ = _
            rw [hstep.out]; rfl
          clear hstep
          have HI6 : V4 B8 (vG V) wy ∧ V4 (w.heap.size + 1) (vG (bV none)) wy := ⟨(v8y).four, (v5y).four⟩
          have HJ6 : ∃ X, V4 B8 (vG V) wy ∧ V4 (w.heap.size + 1) X wy := ⟨_, HI6⟩
          go_wp2_with fail
          try simp only [Act.put, List.setIfInBounds_toArray, List.set_cons_succ, List.set_cons_zero]
          refine Dm.wp_region_fin (I := (fun U => ∃ X, V4 B8 (vG V) U ∧ V4 (w.heap.size + 1) X U)) (z := 4) 5 (Dm.bits 5 0) (by kernel_rfl) (by kernel_rfl) (by kernel_rfl) ?_
          refine Dm.wpF_take (i := 0) (listed' := (Dm.bits 5 1)) (fun _ _ h hx => by obtain ⟨X, h1, h2⟩ := h; exact ⟨X, V4.ext h1 hx, V4.ext h2 hx⟩) HJ6 (by kernel_rfl) (by kernel_rfl) rfl (fun _ _ _ _ h => h) ?_; apply Exists.intro; refine And.intro (fun wq hwq => ?_) ?_
          · obtain ⟨_, ⟨_, a0, a1, a2, a3, _, _, _, _⟩, _⟩ := hwq; go_big_quiet_step (fail); exact wpQuiet_nil rfl
          refine Dm.wpF_take (i := 1) (listed' := (Dm.bits 5 3)) (fun _ _ h hx => by obtain ⟨X, h1, h2⟩ := h; exact ⟨X, V4.ext h1 hx, V4.ext h2 hx⟩) HJ6 (by kernel_rfl) (by kernel_rfl) rfl (fun _ _ _ _ h => h) ?_; apply Exists.intro; refine And.intro (fun wq hwq => ?_) ?_
          · obtain ⟨_, ⟨_, a0, a1, a2, a3, _, _, _, _⟩, _⟩ := hwq; go_big_quiet_step (fail); exact wpQuiet_nil rfl
          refine Dm.wpF_take (i := 2) (listed' := (Dm.bits 5 7)) (fun _ _ h hx => by obtain ⟨X, h1, h2⟩ := h; exact ⟨X, V4.ext h1 hx, V4.ext h2 hx⟩) HJ6 (by kernel_rfl) (by kernel_rfl) rfl (fun _ _ _ _ h => h) ?_; apply Exists.intro; refine And.intro (fun wq hwq => ?_) ?_
          · obtain ⟨_, ⟨_, a0, a1, a2, a3, _, _, _, _⟩, _⟩ := hwq; go_big_quiet_step (fail); exact wpQuiet_nil rfl
          refine Dm.wpF_one (i := 3) (listed' := (Dm.bits 5 15)) (by kernel_rfl) (by kernel_rfl) rfl (fun wm3 hxm3 => ?_)
          obtain ⟨_, z0, z1, z2, z3, y0, y1, y2, y3⟩ := HI6.2.ext hxm3
          have v5p := ((v5y).ext hxm3).put (vG V)
          have v3p := ((v3y).ext hxm3).put_far (c := w.heap.size + 1) (by omega) (vG V)
          have v8p := ((v8y).ext hxm3).put_far (c := w.heap.size + 1) (by omega) (vG V)
          have hbp := ((hby).trans hxm3).put4 (b := w.heap.size + 1) (Nat.le_succ _) (vG V)
          have HJ : ∃ X, V4 B8 (vG V) (put4 wm3 (w.heap.size + 1) (vG V)) ∧ V4 (w.heap.size + 1) X (put4 wm3 (w.heap.size + 1) (vG V)) := ⟨_, v8p.four, v5p.four⟩
          go_wp2_with fail
          clear z0 z1 z2 z3 y0 y1 y2 y3
          change (_ → ∃ X, V4 B8 (vG V) (put4 wm3 (w.heap.size + 1) (vG V)) ∧ V4 (w.heap.size + 1) X (put4 wm3 (w.heap.size + 1) (vG V))) ∧ wpF _ _ _ _ _ _ _ _ _ (put4 wm3 (w.heap.size + 1) (vG V))
          generalize put4 wm3 (w.heap.size + 1) (vG V) = w9 at *
          refine ⟨(by first | exact HJ | exact fun _ => HJ), ?_⟩
          replace HJ6 := HJ
          try simp only [Act.put, List.setIfInBounds_toArray, List.set_cons_succ, List.set_cons_zero]
          refine Dm.wpF_one (i := 4) (listed' := (Dm.bits 5 31)) (by kernel_rfl) (by kernel_rfl) rfl (fun wz hxz => ?_)
          skip
          go_wp2_with fail
          first | refine ⟨fun h => absurd rfl h, ?_⟩ | skip
          refine Dm.wpF_done (by kernel_rfl) (fun wy hxy => ?_)
          have hbq := hbp.trans (hxz.trans hxy)
          have v3q := v3p.ext (hxz.trans hxy)
          have v5q := v5p.ext (hxz.trans hxy)
          go_wp2
          go_roundw
          case rel => exact ⟨k + 1, some (k, V), by omega, by go_num, rfl, rfl, hbq, v3q, v5q, hVo, hst2⟩
          case measure => simp [intOf]; omega
        | some q =>
          have CO := vorder_w V (bV (some q)) hVo hOs wy
          have hst3 := hstep.out
          obtain ⟨qi, qv⟩ := q
          rw [if_pos rfl] at hst3
          simp only at hst3
          rw [show vord V (bV (some (qi, qv))) = vord V qv from rfl] at CO
          clear hstep
          unfold vVal vF at CO
          obtain ⟨_, z0, z1, z2, z3, _, _, _, _⟩ := v8y.four
          obtain ⟨_, y0, y1, y2, y3, _, _, _, _⟩ := v5y.four
          by_cases hneg : vord V qv < 0
          · rw [if_pos hneg] at hst3
            have hst2 := Lib.hid hst3
            generalize vord V qv = o at CO hneg
            clear hst3
            go_wp2_with fail
            refine CO.mono ?_; rintro e w8 ⟨rfl, h8⟩
            clear z0 z1 z2 z3 y0 y1 y2 y3 CO
            have HI6 : V4 B8 (vG V) w8 ∧ V4 (w.heap.size + 1) (vG (bV (some (qi, qv)))) w8 := ⟨(v8y.ext h8).four, (v5y.ext h8).four⟩
            have HJ6 : ∃ X, V4 B8 (vG V) w8 ∧ V4 (w.heap.size + 1) X w8 := ⟨_, HI6⟩
            go_wp2_with fail
            try simp only [Act.put, List.setIfInBounds_toArray, List.set_cons_succ, List.set_cons_zero]
            refine Dm.wp_region_fin (I := (fun U => ∃ X, V4 B8 (vG V) U ∧ V4 (w.heap.size + 1) X U)) (z := 4) 5 (Dm.bits 5 0) (by kernel_rfl) (by kernel_rfl) (by kernel_rfl) ?_
            refine Dm.wpF_take (i := 0) (listed' := (Dm.bits 5 1)) (fun _ _ h hx => by obtain ⟨X, h1, h2⟩ := h; exact ⟨X, V4.ext h1 hx, V4.ext h2 hx⟩) HJ6 (by kernel_rfl) (by kernel_rfl) rfl (fun _ _ _ _ h => h) ?_; apply Exists.intro; refine And.intro (fun wq hwq => ?_) ?_
            · obtain ⟨_, ⟨_, a0, a1, a2, a3, _, _, _, _⟩, _⟩ := hwq; go_big_quiet_step (fail); exact wpQuiet_nil rfl
            refine Dm.wpF_take (i := 1) (listed' := (Dm.bits 5 3)) (fun _ _ h hx => by obtain ⟨X, h1, h2⟩ := h; exact ⟨X, V4.ext h1 hx, V4.ext h2 hx⟩) HJ6 (by kernel_rfl) (by kernel_rfl) rfl (fun _ _ _ _ h => h) ?_; apply Exists.intro; refine And.intro (fun wq hwq => ?_) ?_
            · obtain ⟨_, ⟨_, a0, a1, a2, a3, _, _, _, _⟩, _⟩ := hwq; go_big_quiet_step (fail); exact wpQuiet_nil rfl
            refine Dm.wpF_take (i := 2) (listed' := (Dm.bits 5 7)) (fun _ _ h hx => by obtain ⟨X, h1, h2⟩ := h; exact ⟨X, V4.ext h1 hx, V4.ext h2 hx⟩) HJ6 (by kernel_rfl) (by kernel_rfl) rfl (fun _ _ _ _ h => h) ?_; apply Exists.intro; refine And.intro (fun wq hwq => ?_) ?_
            · obtain ⟨_, ⟨_, a0, a1, a2, a3, _, _, _, _⟩, _⟩ := hwq; go_big_quiet_step (fail); exact wpQuiet_nil rfl
            refine Dm.wpF_one (i := 3) (listed' := (Dm.bits 5 15)) (by kernel_rfl) (by kernel_rfl) rfl (fun wm3 hxm3 => ?_)
            obtain ⟨_, z0, z1, z2, z3, y0, y1, y2, y3⟩ := HI6.2.ext hxm3
            have v5p := ((v5y.ext h8).ext hxm3).put (vG V)
            have v3p := ((v3y.ext h8).ext hxm3).put_far (c := w.heap.size + 1) (by omega) (vG V)
            have v8p := ((v8y.ext h8).ext hxm3).put_far (c := w.heap.size + 1) (by omega) (vG V)
            have hbp := ((hby.trans h8).trans hxm3).put4 (b := w.heap.size + 1) (Nat.le_succ _) (vG V)
            have HJ : ∃ X, V4 B8 (vG V) (put4 wm3 (w.heap.size + 1) (vG V)) ∧ V4 (w.heap.size + 1) X (put4 wm3 (w.heap.size + 1) (vG V)) := ⟨_, v8p.four, v5p.four⟩
            go_wp2_with fail
            clear z0 z1 z2 z3 y0 y1 y2 y3
            change (_ → ∃ X, V4 B8 (vG V) (put4 wm3 (w.heap.size + 1) (vG V)) ∧ V4 (w.heap.size + 1) X (put4 wm3 (w.heap.size + 1) (vG V))) ∧ wpF _ _ _ _ _ _ _ _ _ (put4 wm3 (w.heap.size + 1) (vG V))
            generalize put4 wm3 (w.heap.size + 1) (vG V) = w9 at *
            refine ⟨(by first | exact HJ | exact fun _ => HJ), ?_⟩
            replace HJ6 := HJ
            try simp only [Act.put, List.setIfInBounds_toArray, List.set_cons_succ, List.set_cons_zero]
            refine Dm.wpF_one (i := 4) (listed' := (Dm.bits 5 31)) (by kernel_rfl) (by kernel_rfl) rfl (fun wz hxz => ?_)
            skip
            go_wp2_with fail
            first | refine ⟨fun h => absurd rfl h, ?_⟩ | skip
            refine Dm.wpF_done (by kernel_rfl) (fun wy hxy => ?_)
            have hbq := hbp.trans (hxz.trans hxy)
            have v3q := v3p.ext (hxz.trans hxy)
            have v5q := v5p.ext (hxz.trans hxy)
            go_wp2
            go_roundw
            case rel => exact ⟨k + 1, some (k, V), by omega, by go_num, rfl, rfl, hbq, v3q, v5q, hVo, hst2⟩
            case measure => simp [intOf]; omega
          · rw [if_neg hneg] at hst3
            have hst2 := Lib.hid hst3
            generalize vord V qv = o at CO hneg
            clear hst3
            go_wp2_with fail
            refine CO.mono ?_; rintro e w8 ⟨rfl, h8⟩
            clear z0 z1 z2 z3 y0 y1 y2 y3 CO
            go_wp2
            go_roundw
            case rel => exact ⟨k + 1, some (qi, qv), by omega, by go_num, rfl, rfl, hby.trans h8, v3y.ext h8, v5y.ext h8, hOs, hst2⟩
            case measure => simp [intOf]; omega
    · obtain rfl : k = F.length := by omega
      have hS : Hid (bestS allS d F = s) := HB.out
      clear HB hVs
      have HJ6 : V4 (w.heap.size + 1) (vG (bV s)) wr := v5.four
      go_wp2_with fail
      try simp only [Act.put, List.setIfInBounds_toArray, List.set_cons_succ, List.set_cons_zero]
      refine Dm.wp_region_fin (I := (V4 (w.heap.size + 1) (vG (bV s)))) (z := 5) 6 (Dm.bits 6 0) (by kernel_rfl) (by kernel_rfl) (by kernel_rfl) ?_
      refine Dm.wpF_take (i := 0) (listed' := (Dm.bits 6 1)) (fun _ _ h hx => V4.ext h hx) HJ6 (by kernel_rfl) (by kernel_rfl) rfl (fun _ _ _ _ h => h) ?_; apply Exists.intro; refine And.intro (fun wq hwq => ?_) ?_
      · obtain ⟨_, a0, a1, a2, a3, _, _, _, _⟩ := hwq; go_big_quiet_step (fail); exact wpQuiet_nil rfl
      refine Dm.wpF_take (i := 1) (listed' := (Dm.bits 6 3)) (fun _ _ h hx => V4.ext h hx) HJ6 (by kernel_rfl) (by kernel_rfl) rfl (fun _ _ _ _ h => h) ?_; apply Exists.intro; refine And.intro (fun wq hwq => ?_) ?_
      · obtain ⟨_, a0, a1, a2, a3, _, _, _, _⟩ := hwq; go_big_quiet_step (fail); exact wpQuiet_nil rfl
      refine Dm.wpF_take (i := 2) (listed' := (Dm.bits 6 7)) (fun _ _ h hx => V4.ext h hx) HJ6 (by kernel_rfl) (by kernel_rfl) rfl (fun _ _ _ _ h => h) ?_; apply Exists.intro; refine And.intro (fun wq hwq => ?_) ?_
      · obtain ⟨_, a0, a1, a2, a3, _, _, _, _⟩ := hwq; go_big_quiet_step (fail); exact wpQuiet_nil rfl
      refine Dm.wpF_take (i := 3) (listed' := (Dm.bits 6 15)) (fun _ _ h hx => V4.ext h hx) HJ6 (by kernel_rfl) (by kernel_rfl) rfl (fun _ _ _ _ h => h) ?_; apply Exists.intro; refine And.intro (fun wq hwq => ?_) ?_
      · obtain ⟨_, a0, a1, a2, a3, _, _, _, _⟩ := hwq; go_big_quiet_step (fail); exact wpQuiet_nil rfl
      refine Dm.wpF_one (i := 4) (listed' := (Dm.bits 6 31)) (by kernel_rfl) (by kernel_rfl) rfl (fun wm4 hxm4 => ?_)
      obtain ⟨_, z0, z1, z2, z3, y0, y1, y2, y3⟩ := HJ6.ext hxm4
      have v5p := (v5.ext hxm4).put (vG (bV s))
      have hbp := (hb.trans hxm4).put4 (b := w.heap.size + 1) (Nat.le_succ _) (vG (bV s))
      go_wp2_with fail
      clear z0 z1 z2 z3 y0 y1 y2 y3
      change (_ → V4 (w.heap.size + 1) (vG (bV s)) (put4 wm4 (w.heap.size + 1) (vG (bV s)))) ∧ wpF _ _ _ _ _ _ _ _ _ (put4 wm4 (w.heap.size + 1) (vG (bV s)))
      generalize put4 wm4 (w.heap.size + 1) (vG (bV s)) = w9 at *
      have HJ := v5p.four
      refine ⟨(by first | exact HJ | exact fun _ => HJ), ?_⟩
      replace HJ6 := HJ
      try simp only [Act.put, List.setIfInBounds_toArray, List.set_cons_succ, List.set_cons_zero]
      refine Dm.wpF_one (i := 5) (listed' := (Dm.bits 6 63)) (by kernel_rfl) (by kernel_rfl) rfl (fun wz hxz => ?_)
      skip
      go_wp2_with fail
      first | refine ⟨fun h => absurd rfl h, ?_⟩ | skip
      refine Dm.wpF_done (by kernel_rfl) (fun wy hxy => ?_)
      have hbq := hbp.trans (hxz.trans hxy)
      obtain ⟨_, k0, k1, k2, k3, _, _, _, _⟩ := (v5p.ext (hxz.trans hxy)).four
      go_wp2
      refine bodyPost_ret (v := .tuple #[.int .i64 (bI s : Nat), .agg #[.int .u64 (vG (bV s) 0 : Nat), .int .u64 (vG (bV s) 1 : Nat), .int .u64 (vG (bV s) 2 : Nat), .int .u64 (vG (bV s) 3 : Nat)], .bool s.isSome]) (by simp [results, Try.results23, go_sem, k0, k1, k2, k3]) rfl ?_
      exact ⟨by rw [hS.out], hbq⟩

end Go.Proofs.Ytibimbcjnjefdaa
