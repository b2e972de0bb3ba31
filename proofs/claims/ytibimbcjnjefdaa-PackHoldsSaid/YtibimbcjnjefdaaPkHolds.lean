/- PackHolds is true at every input: where it fits each copy has room, and each slot of a copy matches. -/
import Derived.Test.YtibimbcjnjefdaaPkOpen
import Derived.Test.YtibimbcjnjefdaaPkHoldP
import Derived.Test.YtibimbcjnjefdaaStrSl
import Derived.Test.YtibimbcjnjefdaaRows
namespace Go.Dm
open Go Go.RowKit
/-- The cells of a block, one by one. -/
theorem cells6 {w : World} {g : Nat} {a0 a1 a2 a3 a4 a5 : Value} {t : TypeId} (h : w.heap[g]? = some (.cells #[a0, a1, a2, a3, a4, a5] t (0, 0))) :
    w.cell? ⟨g, 0, none⟩ = some a0 ∧ w.cell? ⟨g, 1, none⟩ = some a1 ∧ w.cell? ⟨g, 2, none⟩ = some a2 ∧ w.cell? ⟨g, 3, none⟩ = some a3 ∧ w.cell? ⟨g, 4, none⟩ = some a4 ∧ w.cell? ⟨g, 5, none⟩ = some a5 := by
  obtain ⟨b, off, hp, _, hc⟩ := Sl.at (Sl.of_block (vs := [a0, a1, a2, a3, a4, a5]) (n := 1) (sz := 6) h rfl (by simp [maxLen])) (by omega)
  injection hp with hp
  injection hp with h1 h2
  subst h1 h2
  have hc' := fun j u h => hc j u h
  simp only [Nat.zero_add] at hc'
  exact ⟨hc' 0 _ rfl, hc' 1 _ rfl, hc' 2 _ rfl, hc' 3 _ rfl, hc' 4 _ rfl, hc' 5 _ rfl⟩
end Go.Dm
namespace Go.Proofs.Ytibimbcjnjefdaa
open Go.RowKit Go.Dm

set_option maxRecDepth 100000 in
theorem Try.openVecs {H : Type} {enc : TypeId × Value → H} {W : World} {a : Option Addr} {len cap : Nat} {d : DataW H} {ps : List MemPlace}
    (h : DataW.Trod enc Try.prog W 0 (fun _ => true) true 43 (.slice a len cap) d ps) : ∃ F : List Vc, Vecs W (.slice a len cap) F :=
  vecs_of_trod Try.underlying43 Try.underlying26 (by kernel_rfl) Try.underlying24 (by kernel_rfl) h

set_option maxHeartbeats 4000000 in
set_option maxRecDepth 100000 in
theorem packholds_w (F : List Vc) (S : List SlotR) (T : List RowS) (d : Vc) (n : Int) (v vs vx : Value) (w : World) (hF : Vecs w v F) (_ : S.length * 72 ≤ 140737488351232) (hk : FitK S) (hx : Slots w vs S) (hT : T.length ≤ 2932031007319) (hf : FitR T) (ht : Terms w vx T) (hd : OkV d) (hn : 0 ≤ n ∧ n ≤ 255) :
    Calls Try.prog 5 #[v, vs, vx, vVal d, .int .u8 n] w fun e w' => e = .returned (.bool true) ∧ Ext w w' := by
  obtain ⟨p, cap, rfl, hcp, hcm⟩ := hx.shape
  obtain ⟨pf, capf, rfl, hcpf, hcmf⟩ := hF.shape
  obtain ⟨q, cap2, rfl, _, _⟩ := ht.shape
  have hSl : S.length ≤ maxLen := by omega
  have hFl : F.length ≤ maxLen := by omega
  unfold maxLen at hSl hFl
  obtain ⟨N, rfl⟩ : ∃ N : Nat, n = N := ⟨n.toNat, by omega⟩
  have hB0 := VBox.new w (vG d) 26
  have hW : Ext w (w.alloc (.cells #[.int .u64 (vG d 0 : Nat), .int .u64 (vG d 1 : Nat), .int .u64 (vG d 2 : Nat), .int .u64 (vG d 3 : Nat)] 26)) := (Ext.refl _).alloc _
  have CE := kexamples_w (w.alloc (.cells #[.int .u64 (vG d 0 : Nat), .int .u64 (vG d 1 : Nat), .int .u64 (vG d 2 : Nat), .int .u64 (vG d 3 : Nat)] 26))
  have hVs := fun (a : Vc) (ha : OkV a) w => vsub_w a d ha hd w
  unfold vVal at hVs ⊢
  go_enter Try.func5, Try.ntmps5
  unfold vF
  go_wp2_with fail
  refine CE.mono ?_; rintro e w1 ⟨rfl, h1⟩
  replace hB0 := hB0.ext h1
  replace h1 := hW.trans h1
  clear CE hW
  go_wp2
  go_loopw [12, 13] (fun t i wr => ∃ k : Nat, k ≤ F.length ∧ k ≤ 12 ∧ i = .int .i64 k ∧ Ext w1 wr ∧ wr.ownsRow w1.heap.size 47 6 t k (slotCells (mkSlots F S k))) (fun _ i _ => 12 - (intOf i).toNat)
  case atStart => exact ⟨0, by omega, by omega, rfl, Ext.refl _, World.ownsRow_nil _ _ _ _⟩
  case round =>
    obtain ⟨k, hkF, hk12, rfl, hb, ho⟩ := hrel
    have hwr := h1.trans hb
    by_cases hlt : k < F.length ∧ k < 12
    · obtain ⟨hlt, hl12⟩ := hlt
      obtain ⟨b, off, rfl, hVA⟩ := (hF.ext hwr).at hlt
      have hst : Hid (slotCells (mkSlots F S (k + 1)) = slotCells (mkSlots F S k) ++ slotOne (mkSlot F S k)) := by
        show _ = _
        rw [mkSlots_succ, slotCells_app]
        simp [slotCells]
      obtain ⟨_, c0, c1, c2, c3⟩ := hVA
      have hnode : Hid ((mkSlot F S k).1 = ⟨#[110]⟩ ++ ⟨#[UInt8.ofNat (97 + k)]⟩) := rfl
      obtain ⟨y, hy⟩ : ∃ y : UInt8, y = UInt8.ofNat (97 + k) := ⟨_, rfl⟩
      have hyn : (97 + (k : Int)) = (y.toNat : Int) := by rw [hy, u8_ofNat (by omega)]; omega
      rw [← hy] at hnode
      have hw1 : IntKind.u8.wrap (k : Int) = (k : Int) := by
        simp only [IntKind.wrap, IntKind.bits, IntKind.signed]
        simp; omega
      have hw2 : IntKind.u8.wrap (97 + (k : Int)) = (y.toNat : Int) := by
        rw [← hyn]
        simp only [IntKind.wrap, IntKind.bits, IntKind.signed]
        simp; omega
      clear hy
      have hfr : Hid (vcAt F k = (mkSlot F S k).2.1) := rfl
      have hslot := hfr
      generalize vcAt F k = fr at *
      go_wp2_with fail
      try simp only [Act.put, List.setIfInBounds_toArray, List.set_cons_succ, List.set_cons_zero]
      refine Dm.wp_region_ext 13 (Dm.bits 13 0) (Ext.refl wr) (by kernel_rfl) (by kernel_rfl) (by kernel_rfl) ?_
      refine Dm.wpE_take (i := 0) (listed' := (Dm.bits 13 1)) (by kernel_rfl) (by kernel_rfl) rfl (fun _ _ _ _ h => h) ?_; apply Exists.intro; refine And.intro (fun x => ?_) ?_
      · go_big_quiet_step (fail); exact wpQuiet_nil rfl
      refine Dm.wpE_take (i := 6) (listed' := (Dm.bits 13 65)) (by kernel_rfl) (by kernel_rfl) rfl (fun _ _ _ _ h => h) ?_; apply Exists.intro; refine And.intro (fun x => ?_) ?_
      · go_big_quiet_step (fail); exact wpQuiet_nil rfl
      refine Dm.wpE_take (i := 7) (listed' := (Dm.bits 13 193)) (by kernel_rfl) (by kernel_rfl) rfl (fun _ _ _ _ h => h) ?_; apply Exists.intro; refine And.intro (fun x => ?_) ?_
      · go_big_quiet_step (fail); exact wpQuiet_nil rfl
      refine Dm.wpE_take (i := 8) (listed' := (Dm.bits 13 449)) (by kernel_rfl) (by kernel_rfl) rfl (fun _ _ _ _ h => h) ?_; apply Exists.intro; refine And.intro (fun x => ?_) ?_
      · go_big_quiet_step (fail); exact wpQuiet_nil rfl
      refine Dm.wpE_take (i := 9) (listed' := (Dm.bits 13 961)) (by kernel_rfl) (by kernel_rfl) rfl (fun _ _ _ _ h => h) ?_; apply Exists.intro; refine And.intro (fun x => ?_) ?_
      · go_big_quiet_step (fail); exact wpQuiet_nil rfl
      refine Dm.wpE_two (i := 1) (j := 11) (li := (Dm.bits 13 963)) (lj := (Dm.bits 13 3009)) (by kernel_rfl) (by kernel_rfl) (by kernel_rfl) rfl rfl (Ext.refl wr) (fun w1a hx1a => ?_) (fun w1a hx1a => ?_)
      ·
        have hX1a := Ext.trans (Ext.refl wr) hx1a
        go_wp2_with fail
        have hX1b := hX1a
        try simp only [Exit.then, Act.put]
        refine Dm.wpE_take (i := 2) (listed' := (Dm.bits 13 967)) (by kernel_rfl) (by kernel_rfl) rfl (fun _ _ _ _ h => h) ?_; apply Exists.intro; refine And.intro (fun x => ?_) ?_
        · go_big_quiet_step (fail); exact wpQuiet_nil rfl
        refine Dm.wpE_two (i := 3) (j := 11) (li := (Dm.bits 13 975)) (lj := (Dm.bits 13 3015)) (by kernel_rfl) (by kernel_rfl) (by kernel_rfl) rfl rfl hX1b (fun w2a hx2a => ?_) (fun w2a hx2a => ?_)
        ·
          have hX2a := Ext.trans hX1b hx2a
          have hl := Sl.lit w2a 5 1 1 #[.int .u8 (y.toNat : Int)] rfl (by simp [maxLen])
          have hs2 := (Ext.refl w2a).alloc (.cells #[.int .u8 (y.toNat : Int)] 5)
          go_wp2_with fail
          generalize w2a.alloc (.cells #[.int .u8 (y.toNat : Int)] 5) = w2b at *
          have hX2b := Ext.trans hX2a hs2
          try simp only [Exit.then, Act.put]
          refine Dm.wpE_two (i := 4) (j := 11) (li := (Dm.bits 13 991)) (lj := (Dm.bits 13 3023)) (by kernel_rfl) (by kernel_rfl) (by kernel_rfl) rfl rfl hX2b (fun w3a hx3a => ?_) (fun w3a hx3a => ?_)
          ·
            have hX3a := Ext.trans hX2b hx3a
            replace hl := hl.ext hx3a
            have hcv := run_string_of (l := [y]) (dst := 9) Try.underlying44 Try.underlying5 Try.underlying9 hl rfl (by simp)
            go_wp2_with fail
            have hX3b := hX3a
            try simp only [Exit.then, Act.put]
            refine Dm.wpE_take (i := 5) (listed' := (Dm.bits 13 1023)) (by kernel_rfl) (by kernel_rfl) rfl (fun _ _ _ _ h => h) ?_; apply Exists.intro; refine And.intro (fun x => ?_) ?_
            · go_big_quiet_step (fail); exact wpQuiet_nil rfl
            refine Dm.wpE_take (i := 10) (listed' := (Dm.bits 13 2047)) (by kernel_rfl) (by kernel_rfl) rfl (fun _ _ _ _ h => h) ?_; apply Exists.intro; refine And.intro (fun x => ?_) ?_
            · go_big_quiet_step (fail); exact wpQuiet_nil rfl
            refine Dm.wpE_one (i := 11) (listed' := (Dm.bits 13 4095)) (by kernel_rfl) (by kernel_rfl) rfl hX3b (fun w4a hx4a => ?_)
            have hX4a := Ext.trans hX3b hx4a
            have hC := heap_alloc_new w4a (.cells #[.string ⟨#[]⟩, .int .u64 0, .int .u64 0, .int .u64 0, .int .u64 0, .slice none 0 0] 47)
            have hs4 := (Ext.refl w4a).alloc (.cells #[.string ⟨#[]⟩, .int .u64 0, .int .u64 0, .int .u64 0, .int .u64 0, .slice none 0 0] 47)
            obtain ⟨cb, hcb⟩ : ∃ cb, cb = w4a.heap.size := ⟨_, rfl⟩
            have hcl : wr.heap.size ≤ cb := by rw [hcb]; exact hX4a.size
            go_wp2_with fail
            generalize w4a.alloc (.cells #[.string ⟨#[]⟩, .int .u64 0, .int .u64 0, .int .u64 0, .int .u64 0, .slice none 0 0] 47) = w4b at *
            rw [← hcb] at hC
            try rw [← hcb]
            clear hcb
            have hX4b := Ext.trans hX4a hs4
            try simp only [Exit.then, Act.put]
            refine Dm.wpE_one (i := 12) (listed' := (Dm.bits 13 8191)) (by kernel_rfl) (by kernel_rfl) rfl hX4b (fun w5a hx5a => ?_)
            have hX5a := Ext.trans hX4b hx5a
            replace hC := Ext.heap hC hx5a
            refine wpList_store_at rfl _ _ _ rfl (g := cb) (off := 0) (cells := [.string (⟨#[110]⟩ ++ ⟨[y].toArray⟩), .int .u64 (vG fr 0 : Nat), .int .u64 (vG fr 1 : Nat), .int .u64 (vG fr 2 : Nat), .int .u64 (vG fr 3 : Nat), .slice none 0 0]) (cur := [.string ⟨#[]⟩, .int .u64 0, .int .u64 0, .int .u64 0, .int .u64 0, .slice none 0 0]) rfl rfl rfl (by kernel_rfl) hC (by simp) (by simp [Value.oneCell']) ?_
            intro w5b hC2 hgr2
            have hX5b := hX5a.put hgr2 hcl
            refine wpList_nil ?_
            try simp only [Exit.then, Act.put]
            refine Dm.wpE_done (by kernel_rfl) hX5b (fun w6a hx6a => ?_)
            have hX6a := Ext.trans hX5b hx6a
            replace hC2 := Ext.heap hC2 hx6a
            have hC3 : w6a.heap[cb]? = some (.cells #[.string (⟨#[110]⟩ ++ ⟨#[y]⟩), .int .u64 (vG fr 0 : Nat), .int .u64 (vG fr 1 : Nat), .int .u64 (vG fr 2 : Nat), .int .u64 (vG fr 3 : Nat), .slice none 0 0] 47 (0, 0)) := hC2
            have hoz := Ext.row ho hX6a
            have hbz := hb.trans hX6a
            clear hC2
            by_cases hs : k < S.length
            · have hxz := hx.ext (h1.trans hbz)
              obtain ⟨bs, offs, hpe, hSR⟩ := hxz.sr hs
              obtain ⟨pl, cl, hle, _, _⟩ := (hxz.lab hs).shape
              have hlv : (mkSlot F S k).2.2.1 = .slice pl (slAt S k).2.2.2.length cl := by unfold mkSlot; simp only [if_pos hs]; exact hle
              rw [hle] at hSR
              have hone : slotOne (mkSlot F S k) = [.string (⟨#[110]⟩ ++ ⟨#[y]⟩), .int .u64 (vG fr 0 : Nat), .int .u64 (vG fr 1 : Nat), .int .u64 (vG fr 2 : Nat), .int .u64 (vG fr 3 : Nat), .slice pl (slAt S k).2.2.2.length cl] := by
                show [.string (mkSlot F S k).1, vAt (mkSlot F S k).2.1 0, vAt (mkSlot F S k).2.1 1, vAt (mkSlot F S k).2.1 2, vAt (mkSlot F S k).2.1 3, (mkSlot F S k).2.2.1] = _
                rw [hnode.out, ← hfr.out, hlv]; rfl
              replace hone := Lib.hid hone
              obtain ⟨_, _, _, _, _, _, s5⟩ := hSR
              subst hpe
              clear hlv hle hxz c0 c1 c2 c3
              generalize (slAt S k).2.2.2.length = ln at *
              go_wp2_with (first
                | (refine wpList_store_at rfl _ _ _ rfl (g := cb) (off := 5) (cells := [.slice pl ln cl]) (cur := [.string (⟨#[110]⟩ ++ ⟨#[y]⟩), .int .u64 (vG fr 0 : Nat), .int .u64 (vG fr 1 : Nat), .int .u64 (vG fr 2 : Nat), .int .u64 (vG fr 3 : Nat), .slice none 0 0]) rfl rfl rfl (by kernel_rfl) hC3 (by simp) (by simp [Value.oneCell']) ?_
                   intro w8 hC8 hgr8
                   have hC9 : w8.heap[cb]? = some (.cells #[.string (⟨#[110]⟩ ++ ⟨#[y]⟩), .int .u64 (vG fr 0 : Nat), .int .u64 (vG fr 1 : Nat), .int .u64 (vG fr 2 : Nat), .int .u64 (vG fr 3 : Nat), .slice pl ln cl] 47 (0, 0)) := hC8
                   obtain ⟨x0, x1, x2, x3, x4, x5⟩ := cells6 hC9
                   have hX8 := hX6a.put hgr8 hcl)
                | (at_builtin
                   refine wpList_appE rfl _ _ Try.slSlot rfl (w0 := w1) (hb.trans (hX8.trans ((Ext.refl _).alloc _))) rfl (Ext.row (Ext.row ho hX8) ((Ext.refl _).alloc _)) rfl (Sl.lit w8 47 6 1 #[.string (⟨#[110]⟩ ++ ⟨#[y]⟩), .int .u64 (vG fr 0 : Nat), .int .u64 (vG fr 1 : Nat), .int .u64 (vG fr 2 : Nat), .int .u64 (vG fr 3 : Nat), .slice pl ln cl] rfl (by simp [maxLen])) (by simp [Value.oneCell']) (by omega) ?_
                   intro v9 w9 ho9 hb9 _))
              exact ⟨⟨k + 1, by omega, by omega, by go_num, hb9, by rw [hst.out, hone.out]; exact ho9⟩, by simp [intOf]; omega⟩
            · have hlv : (mkSlot F S k).2.2.1 = .slice none 0 0 := by unfold mkSlot; simp only [if_neg hs]
              have hone : slotOne (mkSlot F S k) = [.string (⟨#[110]⟩ ++ ⟨#[y]⟩), .int .u64 (vG fr 0 : Nat), .int .u64 (vG fr 1 : Nat), .int .u64 (vG fr 2 : Nat), .int .u64 (vG fr 3 : Nat), .slice none 0 0] := by
                show [.string (mkSlot F S k).1, vAt (mkSlot F S k).2.1 0, vAt (mkSlot F S k).2.1 1, vAt (mkSlot F S k).2.1 2, vAt (mkSlot F S k).2.1 3, (mkSlot F S k).2.2.1] = _
                rw [hnode.out, ← hfr.out, hlv]; rfl
              replace hone := Lib.hid hone
              obtain ⟨x0, x1, x2, x3, x4, x5⟩ := cells6 hC3
              clear hlv c0 c1 c2 c3
              go_wp2_with (at_builtin
                           refine wpList_appE rfl _ _ Try.slSlot rfl (w0 := w1) (hbz.trans ((Ext.refl _).alloc _)) rfl (Ext.row hoz ((Ext.refl _).alloc _)) rfl (Sl.lit w6a 47 6 1 #[.string (⟨#[110]⟩ ++ ⟨#[y]⟩), .int .u64 (vG fr 0 : Nat), .int .u64 (vG fr 1 : Nat), .int .u64 (vG fr 2 : Nat), .int .u64 (vG fr 3 : Nat), .slice none 0 0] rfl (by simp [maxLen])) (by simp [Value.oneCell']) (by omega) ?_
                           intro v9 w9 ho9 hb9 _)
              exact ⟨⟨k + 1, by omega, by omega, by go_num, hb9, by rw [hst.out, hone.out]; exact ho9⟩, by simp [intOf]; omega⟩
          ·
            have hX3a := Ext.trans hX2b hx3a
            replace hl := hl.ext hx3a
            have hC := heap_alloc_new w3a (.cells #[.string ⟨#[]⟩, .int .u64 0, .int .u64 0, .int .u64 0, .int .u64 0, .slice none 0 0] 47)
            have hs3 := (Ext.refl w3a).alloc (.cells #[.string ⟨#[]⟩, .int .u64 0, .int .u64 0, .int .u64 0, .int .u64 0, .slice none 0 0] 47)
            obtain ⟨cb, hcb⟩ : ∃ cb, cb = w3a.heap.size := ⟨_, rfl⟩
            have hcl : wr.heap.size ≤ cb := by rw [hcb]; exact hX3a.size
            go_wp2_with fail
            generalize w3a.alloc (.cells #[.string ⟨#[]⟩, .int .u64 0, .int .u64 0, .int .u64 0, .int .u64 0, .slice none 0 0] 47) = w3b at *
            rw [← hcb] at hC
            try rw [← hcb]
            clear hcb
            have hX3b := Ext.trans hX3a hs3
            replace hl := hl.ext hs3
            try simp only [Exit.then, Act.put]
            refine Dm.wpE_one (i := 4) (listed' := (Dm.bits 13 3039)) (by kernel_rfl) (by kernel_rfl) rfl hX3b (fun w7a hx7a => ?_)
            have hX7a := Ext.trans hX3b hx7a
            replace hl := hl.ext hx7a
            replace hC := Ext.heap hC hx7a
            have hcv := run_string_of (l := [y]) (dst := 9) Try.underlying44 Try.underlying5 Try.underlying9 hl rfl (by simp)
            go_wp2_with fail
            have hX7b := hX7a
            try simp only [Exit.then, Act.put]
            refine Dm.wpE_take (i := 5) (listed' := (Dm.bits 13 3071)) (by kernel_rfl) (by kernel_rfl) rfl (fun _ _ _ _ h => h) ?_; apply Exists.intro; refine And.intro (fun x => ?_) ?_
            · go_big_quiet_step (fail); exact wpQuiet_nil rfl
            refine Dm.wpE_take (i := 10) (listed' := (Dm.bits 13 4095)) (by kernel_rfl) (by kernel_rfl) rfl (fun _ _ _ _ h => h) ?_; apply Exists.intro; refine And.intro (fun x => ?_) ?_
            · go_big_quiet_step (fail); exact wpQuiet_nil rfl
            refine Dm.wpE_one (i := 12) (listed' := (Dm.bits 13 8191)) (by kernel_rfl) (by kernel_rfl) rfl hX7b (fun w8a hx8a => ?_)
            have hX8a := Ext.trans hX7b hx8a
            replace hC := Ext.heap hC hx8a
            refine wpList_store_at rfl _ _ _ rfl (g := cb) (off := 0) (cells := [.string (⟨#[110]⟩ ++ ⟨[y].toArray⟩), .int .u64 (vG fr 0 : Nat), .int .u64 (vG fr 1 : Nat), .int .u64 (vG fr 2 : Nat), .int .u64 (vG fr 3 : Nat), .slice none 0 0]) (cur := [.string ⟨#[]⟩, .int .u64 0, .int .u64 0, .int .u64 0, .int .u64 0, .slice none 0 0]) rfl rfl rfl (by kernel_rfl) hC (by simp) (by simp [Value.oneCell']) ?_
            intro w8b hC2 hgr2
            have hX8b := hX8a.put hgr2 hcl
            refine wpList_nil ?_
            try simp only [Exit.then, Act.put]
            refine Dm.wpE_done (by kernel_rfl) hX8b (fun w9a hx9a => ?_)
            have hX9a := Ext.trans hX8b hx9a
            replace hC2 := Ext.heap hC2 hx9a
            have hC3 : w9a.heap[cb]? = some (.cells #[.string (⟨#[110]⟩ ++ ⟨#[y]⟩), .int .u64 (vG fr 0 : Nat), .int .u64 (vG fr 1 : Nat), .int .u64 (vG fr 2 : Nat), .int .u64 (vG fr 3 : Nat), .slice none 0 0] 47 (0, 0)) := hC2
            have hoz := Ext.row ho hX9a
            have hbz := hb.trans hX9a
            clear hC2
            by_cases hs : k < S.length
            · have hxz := hx.ext (h1.trans hbz)
              obtain ⟨bs, offs, hpe, hSR⟩ := hxz.sr hs
              obtain ⟨pl, cl, hle, _, _⟩ := (hxz.lab hs).shape
              have hlv : (mkSlot F S k).2.2.1 = .slice pl (slAt S k).2.2.2.length cl := by unfold mkSlot; simp only [if_pos hs]; exact hle
              rw [hle] at hSR
              have hone : slotOne (mkSlot F S k) = [.string (⟨#[110]⟩ ++ ⟨#[y]⟩), .int .u64 (vG fr 0 : Nat), .int .u64 (vG fr 1 : Nat), .int .u64 (vG fr 2 : Nat), .int .u64 (vG fr 3 : Nat), .slice pl (slAt S k).2.2.2.length cl] := by
                show [.string (mkSlot F S k).1, vAt (mkSlot F S k).2.1 0, vAt (mkSlot F S k).2.1 1, vAt (mkSlot F S k).2.1 2, vAt (mkSlot F S k).2.1 3, (mkSlot F S k).2.2.1] = _
                rw [hnode.out, ← hfr.out, hlv]; rfl
              replace hone := Lib.hid hone
              obtain ⟨_, _, _, _, _, _, s5⟩ := hSR
              subst hpe
              clear hlv hle hxz c0 c1 c2 c3
              generalize (slAt S k).2.2.2.length = ln at *
              go_wp2_with (first
                | (refine wpList_store_at rfl _ _ _ rfl (g := cb) (off := 5) (cells := [.slice pl ln cl]) (cur := [.string (⟨#[110]⟩ ++ ⟨#[y]⟩), .int .u64 (vG fr 0 : Nat), .int .u64 (vG fr 1 : Nat), .int .u64 (vG fr 2 : Nat), .int .u64 (vG fr 3 : Nat), .slice none 0 0]) rfl rfl rfl (by kernel_rfl) hC3 (by simp) (by simp [Value.oneCell']) ?_
                   intro w8 hC8 hgr8
                   have hC9 : w8.heap[cb]? = some (.cells #[.string (⟨#[110]⟩ ++ ⟨#[y]⟩), .int .u64 (vG fr 0 : Nat), .int .u64 (vG fr 1 : Nat), .int .u64 (vG fr 2 : Nat), .int .u64 (vG fr 3 : Nat), .slice pl ln cl] 47 (0, 0)) := hC8
                   obtain ⟨x0, x1, x2, x3, x4, x5⟩ := cells6 hC9
                   have hX8 := hX9a.put hgr8 hcl)
                | (at_builtin
                   refine wpList_appE rfl _ _ Try.slSlot rfl (w0 := w1) (hb.trans (hX8.trans ((Ext.refl _).alloc _))) rfl (Ext.row (Ext.row ho hX8) ((Ext.refl _).alloc _)) rfl (Sl.lit w8 47 6 1 #[.string (⟨#[110]⟩ ++ ⟨#[y]⟩), .int .u64 (vG fr 0 : Nat), .int .u64 (vG fr 1 : Nat), .int .u64 (vG fr 2 : Nat), .int .u64 (vG fr 3 : Nat), .slice pl ln cl] rfl (by simp [maxLen])) (by simp [Value.oneCell']) (by omega) ?_
                   intro v9 w9 ho9 hb9 _))
              exact ⟨⟨k + 1, by omega, by omega, by go_num, hb9, by rw [hst.out, hone.out]; exact ho9⟩, by simp [intOf]; omega⟩
            · have hlv : (mkSlot F S k).2.2.1 = .slice none 0 0 := by unfold mkSlot; simp only [if_neg hs]
              have hone : slotOne (mkSlot F S k) = [.string (⟨#[110]⟩ ++ ⟨#[y]⟩), .int .u64 (vG fr 0 : Nat), .int .u64 (vG fr 1 : Nat), .int .u64 (vG fr 2 : Nat), .int .u64 (vG fr 3 : Nat), .slice none 0 0] := by
                show [.string (mkSlot F S k).1, vAt (mkSlot F S k).2.1 0, vAt (mkSlot F S k).2.1 1, vAt (mkSlot F S k).2.1 2, vAt (mkSlot F S k).2.1 3, (mkSlot F S k).2.2.1] = _
                rw [hnode.out, ← hfr.out, hlv]; rfl
              replace hone := Lib.hid hone
              obtain ⟨x0, x1, x2, x3, x4, x5⟩ := cells6 hC3
              clear hlv c0 c1 c2 c3
              go_wp2_with (at_builtin
                           refine wpList_appE rfl _ _ Try.slSlot rfl (w0 := w1) (hbz.trans ((Ext.refl _).alloc _)) rfl (Ext.row hoz ((Ext.refl _).alloc _)) rfl (Sl.lit w9a 47 6 1 #[.string (⟨#[110]⟩ ++ ⟨#[y]⟩), .int .u64 (vG fr 0 : Nat), .int .u64 (vG fr 1 : Nat), .int .u64 (vG fr 2 : Nat), .int .u64 (vG fr 3 : Nat), .slice none 0 0] rfl (by simp [maxLen])) (by simp [Value.oneCell']) (by omega) ?_
                           intro v9 w9 ho9 hb9 _)
              exact ⟨⟨k + 1, by omega, by omega, by go_num, hb9, by rw [hst.out, hone.out]; exact ho9⟩, by simp [intOf]; omega⟩
        ·
          have hX2a := Ext.trans hX1b hx2a
          have hC := heap_alloc_new w2a (.cells #[.string ⟨#[]⟩, .int .u64 0, .int .u64 0, .int .u64 0, .int .u64 0, .slice none 0 0] 47)
          have hs2 := (Ext.refl w2a).alloc (.cells #[.string ⟨#[]⟩, .int .u64 0, .int .u64 0, .int .u64 0, .int .u64 0, .slice none 0 0] 47)
          obtain ⟨cb, hcb⟩ : ∃ cb, cb = w2a.heap.size := ⟨_, rfl⟩
          have hcl : wr.heap.size ≤ cb := by rw [hcb]; exact hX2a.size
          go_wp2_with fail
          generalize w2a.alloc (.cells #[.string ⟨#[]⟩, .int .u64 0, .int .u64 0, .int .u64 0, .int .u64 0, .slice none 0 0] 47) = w2b at *
          rw [← hcb] at hC
          try rw [← hcb]
          clear hcb
          have hX2b := Ext.trans hX2a hs2
          try simp only [Exit.then, Act.put]
          refine Dm.wpE_one (i := 3) (listed' := (Dm.bits 13 3023)) (by kernel_rfl) (by kernel_rfl) rfl hX2b (fun w10a hx10a => ?_)
          have hX10a := Ext.trans hX2b hx10a
          replace hC := Ext.heap hC hx10a
          have hl := Sl.lit w10a 5 1 1 #[.int .u8 (y.toNat : Int)] rfl (by simp [maxLen])
          have hs10 := (Ext.refl w10a).alloc (.cells #[.int .u8 (y.toNat : Int)] 5)
          go_wp2_with fail
          generalize w10a.alloc (.cells #[.int .u8 (y.toNat : Int)] 5) = w10b at *
          have hX10b := Ext.trans hX10a hs10
          replace hC := Ext.heap hC hs10
          try simp only [Exit.then, Act.put]
          refine Dm.wpE_one (i := 4) (listed' := (Dm.bits 13 3039)) (by kernel_rfl) (by kernel_rfl) rfl hX10b (fun w11a hx11a => ?_)
          have hX11a := Ext.trans hX10b hx11a
          replace hC := Ext.heap hC hx11a
          replace hl := hl.ext hx11a
          have hcv := run_string_of (l := [y]) (dst := 9) Try.underlying44 Try.underlying5 Try.underlying9 hl rfl (by simp)
          go_wp2_with fail
          have hX11b := hX11a
          try simp only [Exit.then, Act.put]
          refine Dm.wpE_take (i := 5) (listed' := (Dm.bits 13 3071)) (by kernel_rfl) (by kernel_rfl) rfl (fun _ _ _ _ h => h) ?_; apply Exists.intro; refine And.intro (fun x => ?_) ?_
          · go_big_quiet_step (fail); exact wpQuiet_nil rfl
          refine Dm.wpE_take (i := 10) (listed' := (Dm.bits 13 4095)) (by kernel_rfl) (by kernel_rfl) rfl (fun _ _ _ _ h => h) ?_; apply Exists.intro; refine And.intro (fun x => ?_) ?_
          · go_big_quiet_step (fail); exact wpQuiet_nil rfl
          refine Dm.wpE_one (i := 12) (listed' := (Dm.bits 13 8191)) (by kernel_rfl) (by kernel_rfl) rfl hX11b (fun w12a hx12a => ?_)
          have hX12a := Ext.trans hX11b hx12a
          replace hC := Ext.heap hC hx12a
          refine wpList_store_at rfl _ _ _ rfl (g := cb) (off := 0) (cells := [.string (⟨#[110]⟩ ++ ⟨[y].toArray⟩), .int .u64 (vG fr 0 : Nat), .int .u64 (vG fr 1 : Nat), .int .u64 (vG fr 2 : Nat), .int .u64 (vG fr 3 : Nat), .slice none 0 0]) (cur := [.string ⟨#[]⟩, .int .u64 0, .int .u64 0, .int .u64 0, .int .u64 0, .slice none 0 0]) rfl rfl rfl (by kernel_rfl) hC (by simp) (by simp [Value.oneCell']) ?_
          intro w12b hC2 hgr2
          have hX12b := hX12a.put hgr2 hcl
          refine wpList_nil ?_
          try simp only [Exit.then, Act.put]
          refine Dm.wpE_done (by kernel_rfl) hX12b (fun w13a hx13a => ?_)
          have hX13a := Ext.trans hX12b hx13a
          replace hC2 := Ext.heap hC2 hx13a
          have hC3 : w13a.heap[cb]? = some (.cells #[.string (⟨#[110]⟩ ++ ⟨#[y]⟩), .int .u64 (vG fr 0 : Nat), .int .u64 (vG fr 1 : Nat), .int .u64 (vG fr 2 : Nat), .int .u64 (vG fr 3 : Nat), .slice none 0 0] 47 (0, 0)) := hC2
          have hoz := Ext.row ho hX13a
          have hbz := hb.trans hX13a
          clear hC2
          by_cases hs : k < S.length
          · have hxz := hx.ext (h1.trans hbz)
            obtain ⟨bs, offs, hpe, hSR⟩ := hxz.sr hs
            obtain ⟨pl, cl, hle, _, _⟩ := (hxz.lab hs).shape
            have hlv : (mkSlot F S k).2.2.1 = .slice pl (slAt S k).2.2.2.length cl := by unfold mkSlot; simp only [if_pos hs]; exact hle
            rw [hle] at hSR
            have hone : slotOne (mkSlot F S k) = [.string (⟨#[110]⟩ ++ ⟨#[y]⟩), .int .u64 (vG fr 0 : Nat), .int .u64 (vG fr 1 : Nat), .int .u64 (vG fr 2 : Nat), .int .u64 (vG fr 3 : Nat), .slice pl (slAt S k).2.2.2.length cl] := by
              show [.string (mkSlot F S k).1, vAt (mkSlot F S k).2.1 0, vAt (mkSlot F S k).2.1 1, vAt (mkSlot F S k).2.1 2, vAt (mkSlot F S k).2.1 3, (mkSlot F S k).2.2.1] = _
              rw [hnode.out, ← hfr.out, hlv]; rfl
            replace hone := Lib.hid hone
            obtain ⟨_, _, _, _, _, _, s5⟩ := hSR
            subst hpe
            clear hlv hle hxz c0 c1 c2 c3
            generalize (slAt S k).2.2.2.length = ln at *
            go_wp2_with (first
              | (refine wpList_store_at rfl _ _ _ rfl (g := cb) (off := 5) (cells := [.slice pl ln cl]) (cur := [.string (⟨#[110]⟩ ++ ⟨#[y]⟩), .int .u64 (vG fr 0 : Nat), .int .u64 (vG fr 1 : Nat), .int .u64 (vG fr 2 : Nat), .int .u64 (vG fr 3 : Nat), .slice none 0 0]) rfl rfl rfl (by kernel_rfl) hC3 (by simp) (by simp [Value.oneCell']) ?_
                 intro w8 hC8 hgr8
                 have hC9 : w8.heap[cb]? = some (.cells #[.string (⟨#[110]⟩ ++ ⟨#[y]⟩), .int .u64 (vG fr 0 : Nat), .int .u64 (vG fr 1 : Nat), .int .u64 (vG fr 2 : Nat), .int .u64 (vG fr 3 : Nat), .slice pl ln cl] 47 (0, 0)) := hC8
                 obtain ⟨x0, x1, x2, x3, x4, x5⟩ := cells6 hC9
                 have hX8 := hX13a.put hgr8 hcl)
              | (at_builtin
                 refine wpList_appE rfl _ _ Try.slSlot rfl (w0 := w1) (hb.trans (hX8.trans ((Ext.refl _).alloc _))) rfl (Ext.row (Ext.row ho hX8) ((Ext.refl _).alloc _)) rfl (Sl.lit w8 47 6 1 #[.string (⟨#[110]⟩ ++ ⟨#[y]⟩), .int .u64 (vG fr 0 : Nat), .int .u64 (vG fr 1 : Nat), .int .u64 (vG fr 2 : Nat), .int .u64 (vG fr 3 : Nat), .slice pl ln cl] rfl (by simp [maxLen])) (by simp [Value.oneCell']) (by omega) ?_
                 intro v9 w9 ho9 hb9 _))
            exact ⟨⟨k + 1, by omega, by omega, by go_num, hb9, by rw [hst.out, hone.out]; exact ho9⟩, by simp [intOf]; omega⟩
          · have hlv : (mkSlot F S k).2.2.1 = .slice none 0 0 := by unfold mkSlot; simp only [if_neg hs]
            have hone : slotOne (mkSlot F S k) = [.string (⟨#[110]⟩ ++ ⟨#[y]⟩), .int .u64 (vG fr 0 : Nat), .int .u64 (vG fr 1 : Nat), .int .u64 (vG fr 2 : Nat), .int .u64 (vG fr 3 : Nat), .slice none 0 0] := by
              show [.string (mkSlot F S k).1, vAt (mkSlot F S k).2.1 0, vAt (mkSlot F S k).2.1 1, vAt (mkSlot F S k).2.1 2, vAt (mkSlot F S k).2.1 3, (mkSlot F S k).2.2.1] = _
              rw [hnode.out, ← hfr.out, hlv]; rfl
            replace hone := Lib.hid hone
            obtain ⟨x0, x1, x2, x3, x4, x5⟩ := cells6 hC3
            clear hlv c0 c1 c2 c3
            go_wp2_with (at_builtin
                         refine wpList_appE rfl _ _ Try.slSlot rfl (w0 := w1) (hbz.trans ((Ext.refl _).alloc _)) rfl (Ext.row hoz ((Ext.refl _).alloc _)) rfl (Sl.lit w13a 47 6 1 #[.string (⟨#[110]⟩ ++ ⟨#[y]⟩), .int .u64 (vG fr 0 : Nat), .int .u64 (vG fr 1 : Nat), .int .u64 (vG fr 2 : Nat), .int .u64 (vG fr 3 : Nat), .slice none 0 0] rfl (by simp [maxLen])) (by simp [Value.oneCell']) (by omega) ?_
                         intro v9 w9 ho9 hb9 _)
            exact ⟨⟨k + 1, by omega, by omega, by go_num, hb9, by rw [hst.out, hone.out]; exact ho9⟩, by simp [intOf]; omega⟩
      ·
        have hX1a := Ext.trans (Ext.refl wr) hx1a
        have hC := heap_alloc_new w1a (.cells #[.string ⟨#[]⟩, .int .u64 0, .int .u64 0, .int .u64 0, .int .u64 0, .slice none 0 0] 47)
        have hs1 := (Ext.refl w1a).alloc (.cells #[.string ⟨#[]⟩, .int .u64 0, .int .u64 0, .int .u64 0, .int .u64 0, .slice none 0 0] 47)
        obtain ⟨cb, hcb⟩ : ∃ cb, cb = w1a.heap.size := ⟨_, rfl⟩
        have hcl : wr.heap.size ≤ cb := by rw [hcb]; exact hX1a.size
        go_wp2_with fail
        generalize w1a.alloc (.cells #[.string ⟨#[]⟩, .int .u64 0, .int .u64 0, .int .u64 0, .int .u64 0, .slice none 0 0] 47) = w1b at *
        rw [← hcb] at hC
        try rw [← hcb]
        clear hcb
        have hX1b := Ext.trans hX1a hs1
        try simp only [Exit.then, Act.put]
        refine Dm.wpE_one (i := 1) (listed' := (Dm.bits 13 3011)) (by kernel_rfl) (by kernel_rfl) rfl hX1b (fun w14a hx14a => ?_)
        have hX14a := Ext.trans hX1b hx14a
        replace hC := Ext.heap hC hx14a
        go_wp2_with fail
        have hX14b := hX14a
        try simp only [Exit.then, Act.put]
        refine Dm.wpE_take (i := 2) (listed' := (Dm.bits 13 3015)) (by kernel_rfl) (by kernel_rfl) rfl (fun _ _ _ _ h => h) ?_; apply Exists.intro; refine And.intro (fun x => ?_) ?_
        · go_big_quiet_step (fail); exact wpQuiet_nil rfl
        refine Dm.wpE_one (i := 3) (listed' := (Dm.bits 13 3023)) (by kernel_rfl) (by kernel_rfl) rfl hX14b (fun w15a hx15a => ?_)
        have hX15a := Ext.trans hX14b hx15a
        replace hC := Ext.heap hC hx15a
        have hl := Sl.lit w15a 5 1 1 #[.int .u8 (y.toNat : Int)] rfl (by simp [maxLen])
        have hs15 := (Ext.refl w15a).alloc (.cells #[.int .u8 (y.toNat : Int)] 5)
        go_wp2_with fail
        generalize w15a.alloc (.cells #[.int .u8 (y.toNat : Int)] 5) = w15b at *
        have hX15b := Ext.trans hX15a hs15
        replace hC := Ext.heap hC hs15
        try simp only [Exit.then, Act.put]
        refine Dm.wpE_one (i := 4) (listed' := (Dm.bits 13 3039)) (by kernel_rfl) (by kernel_rfl) rfl hX15b (fun w16a hx16a => ?_)
        have hX16a := Ext.trans hX15b hx16a
        replace hC := Ext.heap hC hx16a
        replace hl := hl.ext hx16a
        have hcv := run_string_of (l := [y]) (dst := 9) Try.underlying44 Try.underlying5 Try.underlying9 hl rfl (by simp)
        go_wp2_with fail
        have hX16b := hX16a
        try simp only [Exit.then, Act.put]
        refine Dm.wpE_take (i := 5) (listed' := (Dm.bits 13 3071)) (by kernel_rfl) (by kernel_rfl) rfl (fun _ _ _ _ h => h) ?_; apply Exists.intro; refine And.intro (fun x => ?_) ?_
        · go_big_quiet_step (fail); exact wpQuiet_nil rfl
        refine Dm.wpE_take (i := 10) (listed' := (Dm.bits 13 4095)) (by kernel_rfl) (by kernel_rfl) rfl (fun _ _ _ _ h => h) ?_; apply Exists.intro; refine And.intro (fun x => ?_) ?_
        · go_big_quiet_step (fail); exact wpQuiet_nil rfl
        refine Dm.wpE_one (i := 12) (listed' := (Dm.bits 13 8191)) (by kernel_rfl) (by kernel_rfl) rfl hX16b (fun w17a hx17a => ?_)
        have hX17a := Ext.trans hX16b hx17a
        replace hC := Ext.heap hC hx17a
        refine wpList_store_at rfl _ _ _ rfl (g := cb) (off := 0) (cells := [.string (⟨#[110]⟩ ++ ⟨[y].toArray⟩), .int .u64 (vG fr 0 : Nat), .int .u64 (vG fr 1 : Nat), .int .u64 (vG fr 2 : Nat), .int .u64 (vG fr 3 : Nat), .slice none 0 0]) (cur := [.string ⟨#[]⟩, .int .u64 0, .int .u64 0, .int .u64 0, .int .u64 0, .slice none 0 0]) rfl rfl rfl (by kernel_rfl) hC (by simp) (by simp [Value.oneCell']) ?_
        intro w17b hC2 hgr2
        have hX17b := hX17a.put hgr2 hcl
        refine wpList_nil ?_
        try simp only [Exit.then, Act.put]
        refine Dm.wpE_done (by kernel_rfl) hX17b (fun w18a hx18a => ?_)
        have hX18a := Ext.trans hX17b hx18a
        replace hC2 := Ext.heap hC2 hx18a
        have hC3 : w18a.heap[cb]? = some (.cells #[.string (⟨#[110]⟩ ++ ⟨#[y]⟩), .int .u64 (vG fr 0 : Nat), .int .u64 (vG fr 1 : Nat), .int .u64 (vG fr 2 : Nat), .int .u64 (vG fr 3 : Nat), .slice none 0 0] 47 (0, 0)) := hC2
        have hoz := Ext.row ho hX18a
        have hbz := hb.trans hX18a
        clear hC2
        by_cases hs : k < S.length
        · have hxz := hx.ext (h1.trans hbz)
          obtain ⟨bs, offs, hpe, hSR⟩ := hxz.sr hs
          obtain ⟨pl, cl, hle, _, _⟩ := (hxz.lab hs).shape
          have hlv : (mkSlot F S k).2.2.1 = .slice pl (slAt S k).2.2.2.length cl := by unfold mkSlot; simp only [if_pos hs]; exact hle
          rw [hle] at hSR
          have hone : slotOne (mkSlot F S k) = [.string (⟨#[110]⟩ ++ ⟨#[y]⟩), .int .u64 (vG fr 0 : Nat), .int .u64 (vG fr 1 : Nat), .int .u64 (vG fr 2 : Nat), .int .u64 (vG fr 3 : Nat), .slice pl (slAt S k).2.2.2.length cl] := by
            show [.string (mkSlot F S k).1, vAt (mkSlot F S k).2.1 0, vAt (mkSlot F S k).2.1 1, vAt (mkSlot F S k).2.1 2, vAt (mkSlot F S k).2.1 3, (mkSlot F S k).2.2.1] = _
            rw [hnode.out, ← hfr.out, hlv]; rfl
          replace hone := Lib.hid hone
          obtain ⟨_, _, _, _, _, _, s5⟩ := hSR
          subst hpe
          clear hlv hle hxz c0 c1 c2 c3
          generalize (slAt S k).2.2.2.length = ln at *
          go_wp2_with (first
            | (refine wpList_store_at rfl _ _ _ rfl (g := cb) (off := 5) (cells := [.slice pl ln cl]) (cur := [.string (⟨#[110]⟩ ++ ⟨#[y]⟩), .int .u64 (vG fr 0 : Nat), .int .u64 (vG fr 1 : Nat), .int .u64 (vG fr 2 : Nat), .int .u64 (vG fr 3 : Nat), .slice none 0 0]) rfl rfl rfl (by kernel_rfl) hC3 (by simp) (by simp [Value.oneCell']) ?_
               intro w8 hC8 hgr8
               have hC9 : w8.heap[cb]? = some (.cells #[.string (⟨#[110]⟩ ++ ⟨#[y]⟩), .int .u64 (vG fr 0 : Nat), .int .u64 (vG fr 1 : Nat), .int .u64 (vG fr 2 : Nat), .int .u64 (vG fr 3 : Nat), .slice pl ln cl] 47 (0, 0)) := hC8
               obtain ⟨x0, x1, x2, x3, x4, x5⟩ := cells6 hC9
               have hX8 := hX18a.put hgr8 hcl)
            | (at_builtin
               refine wpList_appE rfl _ _ Try.slSlot rfl (w0 := w1) (hb.trans (hX8.trans ((Ext.refl _).alloc _))) rfl (Ext.row (Ext.row ho hX8) ((Ext.refl _).alloc _)) rfl (Sl.lit w8 47 6 1 #[.string (⟨#[110]⟩ ++ ⟨#[y]⟩), .int .u64 (vG fr 0 : Nat), .int .u64 (vG fr 1 : Nat), .int .u64 (vG fr 2 : Nat), .int .u64 (vG fr 3 : Nat), .slice pl ln cl] rfl (by simp [maxLen])) (by simp [Value.oneCell']) (by omega) ?_
               intro v9 w9 ho9 hb9 _))
          exact ⟨⟨k + 1, by omega, by omega, by go_num, hb9, by rw [hst.out, hone.out]; exact ho9⟩, by simp [intOf]; omega⟩
        · have hlv : (mkSlot F S k).2.2.1 = .slice none 0 0 := by unfold mkSlot; simp only [if_neg hs]
          have hone : slotOne (mkSlot F S k) = [.string (⟨#[110]⟩ ++ ⟨#[y]⟩), .int .u64 (vG fr 0 : Nat), .int .u64 (vG fr 1 : Nat), .int .u64 (vG fr 2 : Nat), .int .u64 (vG fr 3 : Nat), .slice none 0 0] := by
            show [.string (mkSlot F S k).1, vAt (mkSlot F S k).2.1 0, vAt (mkSlot F S k).2.1 1, vAt (mkSlot F S k).2.1 2, vAt (mkSlot F S k).2.1 3, (mkSlot F S k).2.2.1] = _
            rw [hnode.out, ← hfr.out, hlv]; rfl
          replace hone := Lib.hid hone
          obtain ⟨x0, x1, x2, x3, x4, x5⟩ := cells6 hC3
          clear hlv c0 c1 c2 c3
          go_wp2_with (at_builtin
                       refine wpList_appE rfl _ _ Try.slSlot rfl (w0 := w1) (hbz.trans ((Ext.refl _).alloc _)) rfl (Ext.row hoz ((Ext.refl _).alloc _)) rfl (Sl.lit w18a 47 6 1 #[.string (⟨#[110]⟩ ++ ⟨#[y]⟩), .int .u64 (vG fr 0 : Nat), .int .u64 (vG fr 1 : Nat), .int .u64 (vG fr 2 : Nat), .int .u64 (vG fr 3 : Nat), .slice none 0 0] rfl (by simp [maxLen])) (by simp [Value.oneCell']) (by omega) ?_
                       intro v9 w9 ho9 hb9 _)
          exact ⟨⟨k + 1, by omega, by omega, by go_num, hb9, by rw [hst.out, hone.out]; exact ho9⟩, by simp [intOf]; omega⟩
    · have hend : ¬ (k < F.length) ∨ (k < F.length ∧ ¬ (k < 12)) := by omega
      have hmem : ∀ r ∈ mkSlots F S k, ∃ i, i < k ∧ r = mkSlot F S i := fun r hr => by
        obtain ⟨i, hi, rfl⟩ := List.mem_map.1 hr
        exact ⟨i, List.mem_range.1 hi, rfl⟩
      have hlabL : ∀ r ∈ mkSlots F S k, Pairs wr r.2.2.1 r.2.2.2 := fun r hr => by
        obtain ⟨i, hi, rfl⟩ := hmem r hr
        unfold mkSlot
        by_cases hs : i < S.length
        · simp only [if_pos hs]
          exact (hx.ext hwr).lab hs
        · simp only [if_neg hs]
          exact Pairs.nil _
      have hokL : ∀ r ∈ mkSlots F S k, OkV r.2.1 := fun r hr => by
        obtain ⟨i, hi, rfl⟩ := hmem r hr
        exact hF.ok (by omega)
      have hfkL : FitK (mkSlots F S k) := fun r hr => by
        obtain ⟨i, hi, rfl⟩ := hmem r hr
        unfold mkSlot
        by_cases hs : i < S.length
        · simp only [if_pos hs]
          exact hk _ (slAt_mem hs)
        · simp only [if_neg hs]
          simp
      have hNm := Named.make F S k
      have hLs := Slots.of_row ho (mkSlots_len F S k).symm hlabL hokL
      clear hmem hlabL hokL ho
      generalize mkSlots F S k = L at *
      have hLl := hNm.1
      obtain ⟨pL, capL, rfl, _, _⟩ := hLs.shape
      rw [hLl] at hLs
      have CF := kfit_w T L (.slice pL k capL) (.slice q T.length cap2) d hd ((N : Int) % 9) wr (by omega) hf (ht.ext hwr) (by omega) hfkL hLs
      have hI : fitI (letR T) d ((N : Int) % 9) L = fitS (letR T) d (N % 9) L := by
        unfold fitI
        rw [if_neg (by omega), show ((N : Int) % 9).toNat = N % 9 by omega]
      rw [hI] at CF
      clear hI
      have CM := fun (w1 : World) (h : Ext w w1) (lv : Value) (l : List PairS) (hl : l.length ≤ 35184372088832) (hp : Pairs w1 lv l) => match_w T l (.slice q T.length cap2) lv w1 (by omega) hf (ht.ext h) hl hp
      replace CM := Lib.hid CM
      have hv0 := hB0.ext hb
      unfold vVal vF at CF
      replace CF := Lib.hid CF
      have hLsl := hLs.sl
      rw [hLl] at hLsl
      have hLone := hLs.one
      rcases hend with hend | ⟨hendA, hend⟩
      all_goals
        obtain ⟨_, b0, b1, b2, b3, _, _, _, _⟩ := id hv0.four
        go_wp2_with fail
        refine CF.out.mono ?_; rintro e w2 ⟨vo, rfl, hso, h2⟩
        clear b0 b1 b2 b3 CF
        have hw2 := hwr.trans h2
        have hv2 := hv0.ext h2
        have hlen := fun a => fit_len (f := letR T) (d := d) (n := N % 9) (l := L) (a := a)
        generalize hA : fitS (letR T) d (N % 9) L = A at *
        cases A with
        | none =>
          go_wp2
          go_ret
          exact ⟨rfl, hw2⟩
        | some a =>
          replace hlen := hlen a rfl
          have hso : Strs w2 vo a := hso
          obtain ⟨po, capo, rfl, _, _⟩ := hso.shape
          rw [hlen] at hso
          have hsl2 := hLsl.ext h2
          replace hA := Lib.hid hA
          replace hlen := Lib.hid hlen
          go_wp2_with (at_builtin; refine wpList_appE rfl _ _ Try.slSlot rfl (Ext.refl w2) rfl (World.ownsRow_nil _ _ _ _) rfl hsl2 hLone (by omega) ?_; intro v5 w5 ho5 hb5 _)
          have hlN : a.length ≤ 8 := by have := hlen.out; omega
          rw [← hlen.out] at hso hA
          rw [Nat.zero_add, List.nil_append] at ho5
          obtain ⟨hln5, hrow⟩ := ho5
          rcases hrow with ⟨rfl, hF0⟩ | ⟨g, cap5, cur0, rfl, hbg, hg0, hnc, hcm5, hcl0, htk0⟩
          · have hL0 : L = [] := List.eq_nil_of_length_eq_zero (by omega)
            have ha0 : a = [] := by
              have h := hA.out
              rw [hL0] at h
              cases a with
              | nil => rfl
              | cons x xs =>
                obtain ⟨j, V, hB, _⟩ := fit_step (m := xs.length) h
                exact absurd hB (by simp [bestS, bestF])
            subst ha0
            go_loopw [18] (fun i wr => i = .int .i64 0 ∧ Ext w2 wr) (fun _ _ => 0)
            case atStart => exact ⟨rfl, hb5⟩
            case round =>
              obtain ⟨rfl, hb6⟩ := hrel
              go_wp2
              go_ret
              exact ⟨rfl, hw2.trans hb6⟩
          · obtain ⟨cl, hcl1⟩ : ∃ cl, cl = cur0.toList := ⟨_, rfl⟩
            have hg1 : w5.heap[g]? = some (.cells cl.toArray 47 (0, 0)) := by rw [hcl1, Array.toArray_toList]; exact hg0
            have hcl2 : cl.length = cap5 * 6 := by rw [hcl1]; simpa using hcl0
            rw [← hcl1] at htk0
            have htk1 : cl.take (k * 6) = slotCells L := by simpa using htk0
            replace htk1 := Lib.hid htk1
            have hnc' : k ≤ cap5 := by omega
            have hlab2 : ∀ r ∈ L, Pairs w2 r.2.2.1 r.2.2.2 := fun r hr => (hLs.ext h2).labs r hr
            have hok2 := hLs.okv
            clear hcl0 hg0 hcl1 htk0 hln5
            go_loopw [18] (fun i wr => ∃ (m : Nat) (G : List SlotR) (cur : List Value), m ≤ a.length ∧ i = .int .i64 m ∧ Ext w2 wr ∧ wr.heap[g]? = some (.cells cur.toArray 47 (0, 0)) ∧ cur.length = cap5 * 6 ∧
              Hid (cur.take (k * 6) = slotCells G ∧ (∀ r ∈ G, Pairs w2 r.2.2.1 r.2.2.2) ∧ (∀ r ∈ G, OkV r.2.1) ∧ Named k G ∧ FitK G ∧ fitS (letR T) d (a.length - m) G = some (a.drop m))) (fun i _ => a.length - (intOf i).toNat)
            case atStart => exact ⟨0, L, cl, by omega, rfl, hb5, hg1, hcl2, ⟨htk1.out, hlab2, hok2, hNm, hfkL, by simpa using hA.out⟩⟩
            case round =>
              obtain ⟨m, G, cur, hma, rfl, hb6, hg, hcl, HH⟩ := hrel
              have hw6 := hw2.trans hb6
              by_cases hlt2 : m < a.length
              · obtain ⟨htk, hlG, hoG, hNG, hkG, hfit⟩ := HH.out
                clear HH
                have hdr : a.drop m = strAt a m :: a.drop (m + 1) := by
                  rw [List.drop_eq_getElem_cons hlt2]; simp [strAt, hlt2]
                obtain ⟨m', hm'⟩ : ∃ m', a.length - m = m' + 1 := ⟨a.length - m - 1, by omega⟩
                rw [hm', hdr] at hfit
                obtain ⟨j, V, hbest, hnm, hrest⟩ := fit_step hfit
                obtain ⟨hjG, hlet, hvf, hVe⟩ := best_some hbest
                rw [hNG.1] at hjG
                have hGl := hNG.1
                have hOV : OkV V := best_ok hbest hoG
                have hm'' : m' = a.length - (m + 1) := by omega
                rw [hm''] at hrest
                have hSl : Slots wr (.slice (some ⟨g, 0, none⟩) k cap5) G := Slots.of_row (B := w2.heap.size) (e := 47) (n := k) ⟨by rw [slotCells_len, hGl], Or.inr ⟨g, cap5, cur.toArray, rfl, hbg, hg, hnc', hcm5, by simpa using hcl, htk⟩⟩ hGl.symm (fun r hr => (hlG r hr).ext hb6) hoG
                have hSl' : Slots wr (.slice (some ⟨g, 0, none⟩) G.length cap5) G := by rw [hGl]; exact hSl
                have hcell : ∀ c, c < k → SR g (c*6) (nodeB c) (vG (slAt G c).2.1) (slAt G c).2.2.1 wr := fun c hc => by
                  obtain ⟨b', off', hp', hSR⟩ := hSl'.sr (k := c) (by omega)
                  injection hp' with hp'
                  injection hp' with e1 e2
                  subst e1 e2
                  rw [Nat.zero_add, hNG.2 c hc] at hSR
                  exact hSR
                have hnm2 : strAt a m = nodeB j := by rw [← hnm, hNG.2 j hjG]
                obtain ⟨ba, offa, rfl, _, sa0⟩ := (hso.ext hb6).at hlt2
                rw [hnm2] at sa0
                obtain ⟨wo, rfl⟩ : ∃ wo : World, wo = wr := ⟨_, rfl⟩
                clear hfit hdr hbest hnm hnm2 hm' hm''
                replace hNG := Lib.hid hNG
                replace hrest := Lib.hid hrest
                replace htk := Lib.hid htk
                replace hcell := Lib.hid hcell
                have hgl : g < wo.heap.size := (Array.getElem?_eq_some_iff.1 hg).1
                go_wp2
                go_loopw [19] (fun i2 wr2 => ∃ c : Nat, c ≤ j ∧ i2 = .int .i64 c ∧ Ext wo wr2) (fun i2 _ => j - (intOf i2).toNat)
                case atStart => exact ⟨0, by omega, rfl, Ext.refl _⟩
                case round =>
                  obtain ⟨c, hcj, rfl, hb7⟩ := hrel
                  have hck : c < k := by omega
                  obtain ⟨_, n0, _, _, _, _, _⟩ := (hcell.out c hck).ext hb7
                  have sa1 := sa0
                  rw [← hb7.cell (by exact World.block_lt_of_cell? _ _ sa0)] at sa1
                  have hba := World.block_lt_of_cell? _ _ sa1
                  by_cases hcj2 : c < j
                  · have hne : ((nodeB c).toList == (nodeB j).toList) = false := Bool.eq_false_iff.2 fun h => nodeB_ne c j (by omega) (by omega) (by omega) (bytes_eq.1 h)
                    replace hne := hne
                    generalize nodeB c = nc at n0 hne
                    go_wp2_with fail
                    refine Dm.wp_region_grow (by kernel_rfl) (by kernel_rfl) ?_
                    repeat (go_big_quiet_step (fail))
                    refine wpQuiet_nil ?_
                    intro U hU
                    have hU' := hb7.trans hU
                    go_wp2
                    go_roundw
                    case rel => exact ⟨c + 1, by omega, by go_num, hU'⟩
                    case measure => simp [intOf]; omega
                  · obtain rfl : c = j := by omega
                    have hne : ((nodeB c).toList == (nodeB c).toList) = true := by simp
                    go_wp2_with fail
                    refine Dm.wp_region_grow (by kernel_rfl) (by kernel_rfl) ?_
                    repeat (go_big_quiet_step (fail))
                    refine wpQuiet_nil ?_
                    intro U hU
                    have hU' := hb7.trans hU
                    have hgU := Ext.heap hg hU'
                    have hvU := (hv2.ext hb6).ext hU'
                    have hw7 := hw6.trans hU'
                    have hb8 := hb6.trans hU'
                    have hSRU := (hcell.out c hck).ext hU'
                    have hlabj := (hlG (slAt G c) (slAt_mem (by rw [hGl]; exact hck))).ext hb8
                    have hkj := hkG (slAt G c) (slAt_mem (by rw [hGl]; exact hck))
                    obtain ⟨pq, pc, hpe, _, _⟩ := hlabj.shape
                    have CMj := CM.out U hw7 _ _ hkj hlabj
                    have hcm : matchS (T.map rowT) (slAt G c).2.2.2 = letR T (slAt G c) := rfl
                    rw [hcm, hlet] at CMj
                    have hckI : ¬ ((c : Int) = (k : Int)) := by omega
                    have CS := hVs (slAt G c).2.1 (hoG _ (slAt_mem (by rw [hGl]; exact hck)))
                    rw [hvf, show vOr true (vsub (slAt G c).2.1 d) = vsub (slAt G c).2.1 d from rfl, ← hVe] at CS
                    rw [hpe] at hSRU CMj
                    obtain ⟨_, x0, x1, x2, x3, x4, x5⟩ := id hSRU
                    clear n0 sa1 hne hcm hcell hU hb7
                    generalize hfe : (slAt G c).2.1 = fr at *
                    generalize (slAt G c).2.2.2.length = ln at *
                    replace hfe := Lib.hid hfe
                    replace hVe := Lib.hid hVe
                    unfold vF at CS
                    replace CS := Lib.hid CS
                    go_wp2_with fail
                    refine CMj.mono ?_; rintro e w8 ⟨rfl, h8⟩
                    have hg8 := Ext.heap hgU h8
                    have hv8 := hvU.ext h8
                    have hb9 := hb8.trans h8
                    have hR := (hSRU.ext h8).vr
                    have hgl8 : g < w8.heap.size := (Array.getElem?_eq_some_iff.1 hg8).1
                    clear x0 x1 x2 x3 x4 x5 CMj hgU hvU hSRU
                    have HI : VR g (c * 6) (vG fr) w8 ∧ V4 w.heap.size (vG d) w8 := ⟨hR, hv8.four⟩
                    go_wp2_with fail
                    try simp only [Act.put, List.setIfInBounds_toArray, List.set_cons_succ, List.set_cons_zero]
                    refine Dm.wp_region_fin (I := (fun U => VR g (c * 6) (vG fr) U ∧ V4 w.heap.size (vG d) U)) (z := 12) 13 (Dm.bits 13 0) (by kernel_rfl) (by kernel_rfl) (by kernel_rfl) ?_
                    refine Dm.wpF_take (i := 0) (listed' := (Dm.bits 13 1)) (fun _ _ h hx => ⟨h.1.ext hx, V4.ext h.2 hx⟩) HI (by kernel_rfl) (by kernel_rfl) rfl (fun _ _ _ _ h => h) ?_; apply Exists.intro; refine And.intro (fun wq hwq => ?_) ?_
                    · obtain ⟨⟨_, a0, a1, a2, a3⟩, ⟨_, b0, b1, b2, b3, _, _, _, _⟩⟩ := hwq; go_big_quiet_step (((go_at_call 19; exact Calls.quietE (CS.out _)))); exact wpQuiet_nil rfl
                    refine Dm.wpF_take (i := 1) (listed' := (Dm.bits 13 3)) (fun _ _ h hx => ⟨h.1.ext hx, V4.ext h.2 hx⟩) HI (by kernel_rfl) (by kernel_rfl) rfl (fun _ _ _ _ h => h) ?_; apply Exists.intro; refine And.intro (fun wq hwq => ?_) ?_
                    · obtain ⟨⟨_, a0, a1, a2, a3⟩, ⟨_, b0, b1, b2, b3, _, _, _, _⟩⟩ := hwq; go_big_quiet_step (((go_at_call 19; exact Calls.quietE (CS.out _)))); exact wpQuiet_nil rfl
                    refine Dm.wpF_take (i := 2) (listed' := (Dm.bits 13 7)) (fun _ _ h hx => ⟨h.1.ext hx, V4.ext h.2 hx⟩) HI (by kernel_rfl) (by kernel_rfl) rfl (fun _ _ _ _ h => h) ?_; apply Exists.intro; refine And.intro (fun wq hwq => ?_) ?_
                    · obtain ⟨⟨_, a0, a1, a2, a3⟩, ⟨_, b0, b1, b2, b3, _, _, _, _⟩⟩ := hwq; go_big_quiet_step (((go_at_call 19; exact Calls.quietE (CS.out _)))); exact wpQuiet_nil rfl
                    refine Dm.wpF_take (i := 3) (listed' := (Dm.bits 13 15)) (fun _ _ h hx => ⟨h.1.ext hx, V4.ext h.2 hx⟩) HI (by kernel_rfl) (by kernel_rfl) rfl (fun _ _ _ _ h => h) ?_; apply Exists.intro; refine And.intro (fun wq hwq => ?_) ?_
                    · obtain ⟨⟨_, a0, a1, a2, a3⟩, ⟨_, b0, b1, b2, b3, _, _, _, _⟩⟩ := hwq; go_big_quiet_step (((go_at_call 19; exact Calls.quietE (CS.out _)))); exact wpQuiet_nil rfl
                    refine Dm.wpF_take (i := 4) (listed' := (Dm.bits 13 31)) (fun _ _ h hx => ⟨h.1.ext hx, V4.ext h.2 hx⟩) HI (by kernel_rfl) (by kernel_rfl) rfl (fun _ _ _ _ h => h) ?_; apply Exists.intro; refine And.intro (fun wq hwq => ?_) ?_
                    · obtain ⟨⟨_, a0, a1, a2, a3⟩, ⟨_, b0, b1, b2, b3, _, _, _, _⟩⟩ := hwq; go_big_quiet_step (((go_at_call 19; exact Calls.quietE (CS.out _)))); exact wpQuiet_nil rfl
                    refine Dm.wpF_take (i := 5) (listed' := (Dm.bits 13 63)) (fun _ _ h hx => ⟨h.1.ext hx, V4.ext h.2 hx⟩) HI (by kernel_rfl) (by kernel_rfl) rfl (fun _ _ _ _ h => h) ?_; apply Exists.intro; refine And.intro (fun wq hwq => ?_) ?_
                    · obtain ⟨⟨_, a0, a1, a2, a3⟩, ⟨_, b0, b1, b2, b3, _, _, _, _⟩⟩ := hwq; go_big_quiet_step (((go_at_call 19; exact Calls.quietE (CS.out _)))); exact wpQuiet_nil rfl
                    refine Dm.wpF_take (i := 6) (listed' := (Dm.bits 13 127)) (fun _ _ h hx => ⟨h.1.ext hx, V4.ext h.2 hx⟩) HI (by kernel_rfl) (by kernel_rfl) rfl (fun _ _ _ _ h => h) ?_; apply Exists.intro; refine And.intro (fun wq hwq => ?_) ?_
                    · obtain ⟨⟨_, a0, a1, a2, a3⟩, ⟨_, b0, b1, b2, b3, _, _, _, _⟩⟩ := hwq; go_big_quiet_step (((go_at_call 19; exact Calls.quietE (CS.out _)))); exact wpQuiet_nil rfl
                    refine Dm.wpF_take (i := 7) (listed' := (Dm.bits 13 255)) (fun _ _ h hx => ⟨h.1.ext hx, V4.ext h.2 hx⟩) HI (by kernel_rfl) (by kernel_rfl) rfl (fun _ _ _ _ h => h) ?_; apply Exists.intro; refine And.intro (fun wq hwq => ?_) ?_
                    · obtain ⟨⟨_, a0, a1, a2, a3⟩, ⟨_, b0, b1, b2, b3, _, _, _, _⟩⟩ := hwq; go_big_quiet_step (((go_at_call 19; exact Calls.quietE (CS.out _)))); exact wpQuiet_nil rfl
                    refine Dm.wpF_take (i := 8) (listed' := (Dm.bits 13 511)) (fun _ _ h hx => ⟨h.1.ext hx, V4.ext h.2 hx⟩) HI (by kernel_rfl) (by kernel_rfl) rfl (fun _ _ _ _ h => h) ?_; apply Exists.intro; refine And.intro (fun wq hwq => ?_) ?_
                    · obtain ⟨⟨_, a0, a1, a2, a3⟩, ⟨_, b0, b1, b2, b3, _, _, _, _⟩⟩ := hwq; go_big_quiet_step (((go_at_call 19; exact Calls.quietE (CS.out _)))); exact wpQuiet_nil rfl
                    refine Dm.wpF_take (i := 9) (listed' := (Dm.bits 13 1023)) (fun _ _ h hx => ⟨h.1.ext hx, V4.ext h.2 hx⟩) HI (by kernel_rfl) (by kernel_rfl) rfl (fun _ _ _ _ h => h) ?_; apply Exists.intro; refine And.intro (fun wq hwq => ?_) ?_
                    · obtain ⟨⟨_, a0, a1, a2, a3⟩, ⟨_, b0, b1, b2, b3, _, _, _, _⟩⟩ := hwq; go_big_quiet_step (((go_at_call 19; exact Calls.quietE (CS.out _)))); exact wpQuiet_nil rfl
                    refine Dm.wpF_one (i := 10) (listed' := (Dm.bits 13 2047)) (by kernel_rfl) (by kernel_rfl) rfl (fun wm10 hxm10 => ?_)
                    have ha := hxm10.trans ((Ext.refl wm10).alloc (.cells #[.int .u64 (0 : Nat), .int .u64 (0 : Nat), .int .u64 (0 : Nat), .int .u64 (0 : Nat)] 26))
                    have v20 := VBox.new wm10 (fun _ => 0) 26
                    have hz20 : w.heap.size + 1 ≤ wm10.heap.size ∧ g < wm10.heap.size ∧ w2.heap.size ≤ wm10.heap.size ∧ w8.heap.size ≤ wm10.heap.size := by have := hv8.lt; have := hxm10.size; have := hb9.size; omega
                    have HIa : VR g (c * 6) (vG fr) (wm10.alloc (.cells #[.int .u64 (0 : Nat), .int .u64 (0 : Nat), .int .u64 (0 : Nat), .int .u64 (0 : Nat)] 26)) ∧ V4 w.heap.size (vG d) (wm10.alloc (.cells #[.int .u64 (0 : Nat), .int .u64 (0 : Nat), .int .u64 (0 : Nat), .int .u64 (0 : Nat)] 26)) := ⟨hR.ext ha, hv8.four.ext ha⟩
                    go_wp2_with fail
                    generalize wm10.heap.size = B8 at *
                    generalize wm10.alloc (.cells #[.int .u64 (0 : Nat), .int .u64 (0 : Nat), .int .u64 (0 : Nat), .int .u64 (0 : Nat)] 26) = w9 at *
                    refine ⟨(by first | exact HIa | exact fun _ => HIa), ?_⟩
                    replace HI := HIa
                    try simp only [Act.put, List.setIfInBounds_toArray, List.set_cons_succ, List.set_cons_zero]
                    refine Dm.wpF_one (i := 11) (listed' := (Dm.bits 13 4095)) (by kernel_rfl) (by kernel_rfl) rfl (fun wm11 hxm11 => ?_)
                    have v20b := (v20.ext hxm11).put (vG V)
                    have hv8b := (hv8.ext (ha.trans hxm11)).put_far (c := B8) (by omega) (vG V)
                    have hww : Ext w8 (put4 wm11 B8 (vG V)) := (ha.trans hxm11).put4 (b := B8) (by omega) (vG V)
                    have HIb : VR g (c * 6) (vG fr) (put4 wm11 B8 (vG V)) ∧ V4 w.heap.size (vG d) (put4 wm11 B8 (vG V)) := ⟨(hR.ext (ha.trans hxm11)).far_put (by omega) (vG V), hv8b.four⟩
                    obtain ⟨_, z0, z1, z2, z3, y0, y1, y2, y3⟩ := (v20.ext hxm11).four
                    go_wp2_with fail
                    clear z0 z1 z2 z3 y0 y1 y2 y3
                    change (_ → VR g (c * 6) (vG fr) (put4 wm11 B8 (vG V)) ∧ V4 w.heap.size (vG d) (put4 wm11 B8 (vG V))) ∧ wpF _ _ _ _ _ _ _ _ _ (put4 wm11 B8 (vG V))
                    generalize put4 wm11 B8 (vG V) = w10 at *
                    refine ⟨(by first | exact HIb | exact fun _ => HIb), ?_⟩
                    replace HI := HIb
                    try simp only [Act.put, List.setIfInBounds_toArray, List.set_cons_succ, List.set_cons_zero]
                    refine Dm.wpF_one (i := 12) (listed' := (Dm.bits 13 8191)) (by kernel_rfl) (by kernel_rfl) rfl (fun wz hxz => ?_)
                    skip
                    go_wp2_with fail
                    first | refine ⟨fun h => absurd rfl h, ?_⟩ | skip
                    refine Dm.wpF_done (by kernel_rfl) (fun wy hxy => ?_)
                    have hwy := hww.trans (hxz.trans hxy)
                    have hgy := Ext.heap hg8 hwy
                    have hby := hb9.trans hwy
                    obtain ⟨_, z0, z1, z2, z3, _, _, _, _⟩ := (v20b.ext (hxz.trans hxy)).four
                    clear HI HIb hww v20 v20b hv8b HIa ha hxz hxy hR CS hg8 hv8 hb9
                    have hfit4 : c * 6 + 1 + 4 ≤ cur.length := by omega
                    have hone4 : ∀ u ∈ [vAt V 0, vAt V 1, vAt V 2, vAt V 3], u.oneCell' = true := fun u hu => by
                      simp only [List.mem_cons, List.not_mem_nil, or_false] at hu
                      rcases hu with rfl | rfl | rfl | rfl <;> rfl
                    go_wp2_with (refine wpList_store_at rfl _ _ _ rfl (g := g) (off := c * 6 + 1) (cells := [vAt V 0, vAt V 1, vAt V 2, vAt V 3]) rfl rfl rfl (by kernel_rfl) hgy hfit4 hone4 ?_; intro w11 hg11 hgr11)
                    have hcG : c < G.length := by rw [hGl]; exact hck
                    have hlen4 : c * 6 + 1 + [vAt V 0, vAt V 1, vAt V 2, vAt V 3].length ≤ cur.length := hfit4
                    refine ⟨⟨m + 1, G.set c (setFree (slAt G c) V), _, by omega, by go_num, hby.put hgr11 hbg, hg11, by rw [length_splice _ _ _ hlen4]; exact hcl, ⟨?_, fun r hr => ?_, fun r hr => ?_, hNG.out.set c V, fun r hr => ?_, hrest.out⟩⟩, by simp [intOf]; omega⟩
                    · rw [splice_take _ _ (by show c * 6 + 1 + 4 ≤ _; omega) (by rw [hcl]; exact Nat.mul_le_mul_right _ hnc'), htk.out, slotCells_set hcG V]
                    · rcases set_mem hr with h | h
                      · exact hlG r h
                      · rw [h]; exact hlG (slAt G c) (slAt_mem hcG)
                    · rcases set_mem hr with h | h
                      · exact hoG r h
                      · rw [h]; exact hOV
                    · rcases set_mem hr with h | h
                      · exact hkG r h
                      · rw [h]; exact hkG (slAt G c) (slAt_mem hcG)
              · obtain rfl : m = a.length := by omega
                go_wp2
                go_ret
                exact ⟨rfl, hw6⟩

open Go.ChangeShapes Go.WideShapes Go.ChangeAt in
set_option maxRecDepth 100000 in
theorem packHolds_lifted (os : Os) (started : os.Started) (H : Type) (enc : TypeId × Value → H) :
    ReturnsInHanded {} Try.checked os 5 .any (Rows.packHoldsSpec.pre6 enc Try.prog Try.f5 Rows.packHoldsRow.domain false) (Rows.packHoldsSpec.post enc Try.prog Try.f5 false true false false) := by
  refine returnsInHanded_of_change_sized (C := Try.checked) Try.own started (by kernel_rfl) Try.func5
    (ChangeSpec.witness6 (enc := enc) (C := Try.checked) false ⟨#[], #[.slice none 0 0, .slice none 0 0, .slice none 0 0, .agg #[.int .u64 0, .int .u64 0, .int .u64 0, .int .u64 0], .int .u8 0], []⟩ 8 (by kernel_rfl) (by kernel_rfl) (by kernel_rfl) (by kernel_rfl)) ?_
  intro W base args ds gs before hval0 hW hcnd hsz0 _
  have hsz : (DataW.weightsEach Try.prog (Try.f5.params.toList ++ Rows.packHoldsSpec.plain.varTypes Try.prog) (ds ++ gs)).all (· ≤ reachBytes) = true := hsz0
  clear hsz0
  have hval : ∀ (j : Nat) t v, Try.f5.params[j]? = some t → args[j]? = some v → Value.okWide Try.prog W .any base t v := hval0
  have hW' := hW
  obtain ⟨p, q, hA0, hV, rfl, hfz, hnd⟩ := hW
  have hA : DataW.TrodAll enc Try.prog W 0 (fun _ => true) true Try.f5.params.toList args.toList ds p := hA0
  rw [Try.params5] at hA hval hsz
  obtain ⟨v0, vs0, d0, ds0, p0, q0, hargs, rfl, rfl, h0, r0⟩ := trodAll_cons hA
  obtain ⟨v1, vs1, d1, ds1, p1, q1, rfl, rfl, rfl, h1, r1⟩ := trodAll_cons r0
  obtain ⟨v2, vs2, d2, ds2, p2, q2, rfl, rfl, rfl, h2, r2⟩ := trodAll_cons r1
  obtain ⟨v3, vs3, d3, ds3, p3, q3, rfl, rfl, rfl, h3, r3⟩ := trodAll_cons r2
  obtain ⟨v4, vs4, d4, ds4, p4, q4, rfl, rfl, rfl, h4, r4⟩ := trodAll_cons r3
  obtain ⟨rfl, rfl, rfl⟩ := trodAll_nil r4
  obtain rfl : args = #[v0, v1, v2, v3, v4] := by cases args; simp_all
  obtain ⟨rfl, rfl⟩ := trodVars_none hV
  have k0 := h0
  have lt0 : ∀ x ∈ p0, x.block < W.heap.size := by obtain ⟨m, hm⟩ := k0; exact DataW.trod_lt m _ _ _ hm
  have k1 := h1
  have lt1 : ∀ x ∈ p1, x.block < W.heap.size := by obtain ⟨m, hm⟩ := k1; exact DataW.trod_lt m _ _ _ hm
  have k2 := h2
  have lt2 : ∀ x ∈ p2, x.block < W.heap.size := by obtain ⟨m, hm⟩ := k2; exact DataW.trod_lt m _ _ _ hm
  have k3 := h3
  have lt3 : ∀ x ∈ p3, x.block < W.heap.size := by obtain ⟨m, hm⟩ := k3; exact DataW.trod_lt m _ _ _ hm
  have k4 := h4
  have lt4 : ∀ x ∈ p4, x.block < W.heap.size := by obtain ⟨m, hm⟩ := k4; exact DataW.trod_lt m _ _ _ hm
  obtain ⟨a0, len0, cap0, rfl⟩ := okWide_slice Try.underlying43 (hval 0 43 v0 rfl rfl)
  obtain ⟨xs0, hx0⟩ := Try.openVecs h0
  obtain ⟨a1, len1, cap1, rfl⟩ := okWide_slice Try.underlying22 (hval 1 22 v1 rfl rfl)
  obtain ⟨xs1, hx1, hm1, hf1⟩ := Try.openSlots (j := 1) hsz rfl rfl h1
  obtain ⟨a2, len2, cap2, rfl⟩ := okWide_slice Try.underlying23 (hval 2 23 v2 rfl rfl)
  obtain ⟨xs2, hx2, hm2, hf2⟩ := Try.openTerms (j := 2) hsz rfl rfl h2
  obtain ⟨e3, hd3, rfl⟩ := Try.openVec (hval 3 26 v3 rfl rfl) h3
  obtain ⟨z4, rfl, _, _, wf4⟩ := open_int Try.underlying5 (hval 4 5 v4 rfl rfl) h4
  have rg4 : 0 ≤ z4 ∧ z4 ≤ 255 := by
    have h := wf4
    simp [Lit.wf, IntKind.min, IntKind.max, IntKind.signed, IntKind.bits] at h
    omega
  clear hA0 hval0
  refine (packholds_w xs0 xs1 xs2 e3 z4 _ _ _ W hx0 hm1 hf1 hx1 hm2 hf2 hx2 hd3 rg4).mono fun e W' ⟨he, bel⟩ => ?_
  subst he
  exact ⟨_, rfl, _, _, _, [], _, [], hW', trodAll_mk1 (shut_bool Try.underlying4 _), (trodAll_cons_mk (Below.trod Try.laidOut (by kernel_rfl) (of_decide_eq_true (by kernel_rfl)) k0 bel lt0) (trodAll_cons_mk (Below.trod Try.laidOut (by kernel_rfl) (of_decide_eq_true (by kernel_rfl)) k1 bel lt1) (trodAll_cons_mk (Below.trod Try.laidOut (by kernel_rfl) (of_decide_eq_true (by kernel_rfl)) k2 bel lt2) (trodAll_cons_mk (Below.trod Try.laidOut (by kernel_rfl) (of_decide_eq_true (by kernel_rfl)) k3 bel lt3) (trodAll_cons_mk (Below.trod Try.laidOut (by kernel_rfl) (of_decide_eq_true (by kernel_rfl)) k4 bel lt4) trodAll_mk0))))), rfl, Below.frame bel _, fun h => by cases h⟩

theorem packHolds_holds : Rows.PackHoldsSaid :=
  OpenClaim.holds_of_wide 5 Try.f5 rfl rfl rfl rfl rfl rfl rfl ⟨rfl, rfl, rfl, rfl, rfl⟩ rfl rfl rfl rfl rfl (by kernel_rfl) Try.func5 (by kernel_rfl)
    (of_decide_eq_true (by kernel_rfl)) (by unfold Func.isWrapper; first | (rw [if_pos (by decide +kernel)]; kernel_rfl) | (rw [if_neg (by decide +kernel)]; exact ⟨rfl, rfl⟩))
    (fun os started H enc _ => packHolds_lifted os started H enc)

end Go.Proofs.Ytibimbcjnjefdaa
