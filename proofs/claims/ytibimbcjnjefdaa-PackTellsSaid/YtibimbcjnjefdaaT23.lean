/- Texts one behind the other: Chapter 13: the walk of the document's Fit. -/
import Derived.Test.YtibimbcjnjefdaaT22
namespace Go.Dm
open Go Go.RowKit
/-- What is left to be told once k copies have their place. -/
def FitG (f : SlotR → Bool) (d : Vc) (N : Nat) (F : List SlotR) (k : Nat) (G : List SlotR) (acc : List ByteArray) : Prop :=
  fitS f d N F = (fitS f d (N - k) G).map (acc ++ ·)
theorem FitG.start (f : SlotR → Bool) (d : Vc) (N : Nat) (F : List SlotR) : FitG f d N F 0 F [] := by simp [FitG]
theorem FitG.none {f : SlotR → Bool} {d : Vc} {N k : Nat} {F G : List SlotR} {acc} (h : FitG f d N F k G acc) (hk : k < N) (hb : bestS f d G = none) : fitS f d N F = none := by
  unfold FitG at h
  obtain ⟨m, hm⟩ : ∃ m, N - k = m + 1 := ⟨N - k - 1, by omega⟩
  rw [h, hm, fit_succ, hb]; rfl
theorem FitG.some {f : SlotR → Bool} {d : Vc} {N k i : Nat} {v : Vc} {F G : List SlotR} {acc} (h : FitG f d N F k G acc) (hk : k < N) (hb : bestS f d G = some (i, v)) :
    FitG f d N F (k + 1) (G.set i (setFree (slAt G i) v)) (acc ++ [(slAt G i).1]) := by
  unfold FitG at h ⊢
  obtain ⟨m, hm⟩ : ∃ m, N - k = m + 1 := ⟨N - k - 1, by omega⟩
  have hm' : N - (k + 1) = m := by omega
  rw [h, hm, fit_succ, hb, hm']
  simp only [Option.map_map]
  congr 1
  funext x
  simp
theorem FitG.end {f : SlotR → Bool} {d : Vc} {N : Nat} {F G : List SlotR} {acc} (h : FitG f d N F N G acc) : fitS f d N F = .some acc := by
  unfold FitG at h
  rw [h, Nat.sub_self]; simp [fitS]
end Go.Dm
namespace Go.Proofs.Ytibimbcjnjefdaa
open Go.RowKit Go.Dm

set_option maxHeartbeats 4000000 in
set_option maxRecDepth 100000 in
theorem rfitN_w (T : List RowS) (R : List SlotR) (v vx : Value) (d : Vc) (hd : OkV d) (N : Nat) (hN : N ≤ 8) (w : World) (hT : T.length ≤ 35184372088832) (hf : FitR T) (ht : Terms w vx T) (hm : R.length * 72 ≤ 140737488355328) (hk : FitK R) (hx : Slots w v R) :
    Calls Try.prog 11 #[v, vx, vVal d, .int .i64 (N : Nat)] w fun e w' => ∃ vo, e = .returned (.tuple #[vo, .bool (fitS (letR T) d N R).isSome]) ∧ Strs w' vo ((fitS (letR T) d N R).getD []) ∧ Ext w w' := by
  have hW : Ext w (w.alloc (.cells #[.int .u64 (vG d 0 : Nat), .int .u64 (vG d 1 : Nat), .int .u64 (vG d 2 : Nat), .int .u64 (vG d 3 : Nat)] 36)) := (Ext.refl _).alloc _
  have v6 := VBox.new w (vG d) 36
  obtain ⟨q2, cap2, rfl, _, _⟩ := ht.shape
  have hx0 := hx
  obtain ⟨qx, capx, rfl, _, _⟩ := hx0.shape
  have hxW := hx.ext hW
  have htW := ht.ext hW
  have hone := hx.one
  have hsl := hxW.sl
  have hVs := fun (a : Vc) (ha : OkV a) w => r03sub_w a d ha hd w
  have hN8 : ¬ ((8 : Int) < (N : Int)) := by omega
  unfold vVal at hVs ⊢
  unfold vF
  go_enter Try.func11, Try.ntmps11
  go_wp2_with (at_builtin; refine wpList_appE rfl _ _ Try.slSlotR rfl (Ext.refl _) rfl (World.ownsRow_nil _ _ _ _) rfl hsl hone (by omega) ?_; intro v1 w1 ho1 h1 _)
  generalize w.alloc (.cells #[.int .u64 (vG d 0 : Nat), .int .u64 (vG d 1 : Nat), .int .u64 (vG d 2 : Nat), .int .u64 (vG d 3 : Nat)] 36) = w0 at *
  rw [Nat.zero_add, List.nil_append] at ho1
  obtain ⟨hlen, hrow⟩ := ho1
  have hlab := hxW.labs
  have hok := hxW.okv
  rcases hrow with ⟨rfl, hF0⟩ | ⟨g, cap, cur0, rfl, hbg, hg0, hnc, hcm, hcl0, htk0⟩
  · have hFn : R = [] := List.eq_nil_of_length_eq_zero hF0
    subst hFn
    have hno : 0 < N → fitS (letR T) d N [] = none := fun h => (FitG.start (letR T) d N []).none h rfl
    have hz : N = 0 → fitS (letR T) d N [] = some [] := fun h => by subst h; rfl
    have CB := rbest_w [] T d _ _ w1 (by simp) hk (Slots.nil w1) hT hf (htW.ext h1) hd
    rw [show atJ (bestS (letR T) d []) = -1 from rfl] at CB
    unfold vVal vF at CB
    obtain ⟨_, z0, z1, z2, z3, _, _, _, _⟩ := (v6.ext h1).four
    replace CB := Lib.hid CB
    replace hno := Lib.hid hno
    replace hz := Lib.hid hz
    go_loopw [11, 12] (fun t10 i wr => t10 = .slice none 0 0 ∧ i = .int .i64 0 ∧ wr = w1) (fun _ i _ => 0)
    case atStart => exact ⟨rfl, rfl, rfl⟩
    case round =>
      obtain ⟨rfl, rfl, rfl⟩ := hrel
      by_cases h0 : 0 < N
      · go_wp2_with fail
        refine CB.out.mono ?_; rintro e w2 ⟨rfl, h2⟩
        go_wp2
        go_ret2
        exact ⟨.slice none 0 0, by rw [hno.out h0]; rfl, by rw [hno.out h0]; exact Strs.nil _, hW.trans (h1.trans h2)⟩
      · go_wp2
        go_ret2
        exact ⟨.slice none 0 0, by rw [hz.out (by omega)]; rfl, by rw [hz.out (by omega)]; exact Strs.nil _, hW.trans h1⟩
  · obtain ⟨cl, hcl1⟩ : ∃ cl, cl = cur0.toList := ⟨_, rfl⟩
    have hg1 : w1.heap[g]? = some (.cells cl.toArray 66 (0, 0)) := by rw [hcl1, Array.toArray_toList]; exact hg0
    have hcl2 : cl.length = cap * 6 := by rw [hcl1]; simpa using hcl0
    rw [← hcl1] at htk0
    have hfs := FitG.start (letR T) d N R
    replace hfs := Lib.hid hfs
    replace htk0 := Lib.hid htk0
    clear hcl0 hg0 hcl1
    go_loopw [11, 12] (fun t10 i wr => ∃ (k : Nat) (G : List SlotR) (acc : List ByteArray) (cur : List Value), k ≤ N ∧ i = .int .i64 k ∧ G.length = R.length ∧ acc.length = k ∧ Ext w0 wr ∧ wr.heap[g]? = some (.cells cur.toArray 66 (0, 0)) ∧ cur.length = cap * 6 ∧
      wr.ownsRow w0.heap.size 9 1 t10 k (acc.map .string) ∧ (∀ b, t10.ownBlock = some b → b ≠ g) ∧ Hid (cur.take (R.length * 6) = slotCells G ∧ (∀ r ∈ G, Pairs w0 r.2.2.1 r.2.2.2) ∧ (∀ r ∈ G, OkV r.2.1) ∧ FitK G ∧ FitG (letR T) d N R k G acc)) (fun _ i _ => N - (intOf i).toNat)
    case atStart => exact ⟨0, R, [], cl, by omega, rfl, rfl, rfl, h1, hg1, hcl2, World.ownsRow_nil _ _ _ _, (fun b hb => by cases hb), ⟨htk0.out, hlab, hok, hk, hfs.out⟩⟩
    case round =>
      obtain ⟨k, G, acc, cur, hkN, rfl, hGl, hal, hb, hg, hcl, hown, hap, HH⟩ := hrel
      by_cases hlt : k < N
      · obtain ⟨htk, hlG, hoG, hkG, hFA⟩ := HH.out
        have hSl : Slots wr (.slice (some ⟨g, 0, none⟩) R.length cap) G := Slots.of_row (B := w0.heap.size) (e := 66) (n := R.length) ⟨by rw [slotCells_len, hGl], Or.inr ⟨g, cap, cur.toArray, rfl, hbg, hg, hnc, hcm, by simpa using hcl, htk⟩⟩ hGl.symm (fun r hr => (hlG r hr).ext hb) hoG
        have hGl' := Lib.hid hGl
        have CB := rbest_w G T d _ _ wr (by omega) hkG hSl hT hf (htW.ext hb) hd
        have hno := fun h => hFA.none hlt h
        have hyes := fun i V h => hFA.some (i := i) (v := V) hlt h
        have hbo := fun i V h => best_ok (f := letR T) (d := d) (G := G) (i := i) (v := V) h hoG
        have hbl := fun i V h => best_some (f := letR T) (d := d) (l := G) (k := G.length) (i := i) (v := V) h
        obtain ⟨_, z0, z1, z2, z3, _, _, _, _⟩ := (v6.ext hb).four
        clear HH hFA
        cases hB : bestS (letR T) d G with
        | none =>
          have hS := Lib.hid (hno hB)
          rw [hB, show atJ none = -1 from rfl] at CB
          unfold vVal vF at CB
          replace CB := Lib.hid CB
          clear hno hyes hbo hbl hB htk
          go_wp2_with fail
          refine CB.out.mono ?_; rintro e w2 ⟨rfl, h2⟩
          go_wp2
          go_ret2
          exact ⟨.slice none 0 0, by rw [hS.out]; rfl, by rw [hS.out]; exact Strs.nil _, hW.trans (hb.trans h2)⟩
        | some qb =>
          obtain ⟨i, V⟩ := qb
          have hF1 := Lib.hid (hyes i V hB)
          have hOV := hbo i V hB
          obtain ⟨hiG, _, hvf, hVe⟩ := hbl i V hB
          have hiF : i < R.length := by omega
          rw [hB, show atJ (some (i, V)) = (i : Int) from rfl] at CB
          unfold vVal vF at CB
          replace CB := Lib.hid CB
          have hSl' : Slots wr (.slice (some ⟨g, 0, none⟩) G.length cap) G := by rw [hGl]; exact hSl
          have hSRw : ∀ U, (∃ X, Ext w0 X ∧ X = U) → U.heap[g]? = some (.cells cur.toArray 66 (0, 0)) → SR g (i * 6) (slAt G i).1 (vG (slAt G i).2.1) (slAt G i).2.2.1 U := fun U hU hgU => by
            obtain ⟨X, hX, rfl⟩ := hU
            have hS2 : Slots X (.slice (some ⟨g, 0, none⟩) G.length cap) G := Slots.of_row (B := w0.heap.size) (e := 66) (n := G.length) ⟨by rw [slotCells_len], Or.inr ⟨g, cap, cur.toArray, rfl, hbg, hgU, by omega, hcm, by simpa using hcl, by rw [hGl]; exact htk⟩⟩ rfl (fun r hr => (hlG r hr).ext hX) hoG
            obtain ⟨gb, go, hge, hsr⟩ := hS2.sr hiG
            injection hge with hge
            injection hge with hge1 hge2
            subst hge1 hge2
            rw [Nat.zero_add] at hsr
            exact hsr
          have CS := hVs (slAt G i).2.1 (hoG _ (slAt_mem hiG))
          rw [hvf, show vOr true (vsub (slAt G i).2.1 d) = vsub (slAt G i).2.1 d from rfl, ← hVe] at CS
          unfold vF at CS
          replace CS := Lib.hid CS
          clear hno hyes hbo hbl hB hVs
          go_wp2_with fail
          refine CB.out.mono ?_; rintro e w2 ⟨rfl, h2⟩
          clear z0 z1 z2 z3
          have hE3 := hb.trans h2
          have hown3 := Ext.row hown h2
          have hg3 := Ext.heap hg h2
          obtain ⟨_, c0, _, _, _, _, _⟩ := hSRw w2 ⟨_, hE3, rfl⟩ hg3
          have hE4 := hE3.trans ((Ext.refl _).alloc (.cells #[.string (slAt G i).1] 9))
          have ho4 := Ext.row hown3 ((Ext.refl _).alloc (.cells #[.string (slAt G i).1] 9))
          have hg4 := Ext.heap hg3 ((Ext.refl _).alloc (.cells #[.string (slAt G i).1] 9))
          have hl4 := Sl.lit w2 9 1 1 #[.string (slAt G i).1] rfl (by simp [maxLen])
          have hone1 : ∀ u ∈ (#[Value.string (slAt G i).1] : Array Value).toList, u.oneCell' = true := fun u hu => by simp at hu; subst hu; rfl
          have hgl2 : g < w2.heap.size := (Array.getElem?_eq_some_iff.1 hg3).1
          replace hSRw := Lib.hid hSRw
          generalize hnm : (slAt G i).1 = node at *
          clear hown hown3 hg
          go_wp2_with (at_builtin
                       refine wpList_appO rfl _ _ Try.slStr rfl hE4.size rfl ho4 rfl hl4 (by omega) hone1 (by omega) ?_
                       intro v5 w5 ho5 hg5 hor5)
          have hX5 : Ext w0 w5 := hE4.app ho4 hg5 (Nat.le_refl _)
          have hg5h := hg5.block g (Array.getElem?_eq_some_iff.1 hg4).1 (fun e => hap g e.symm rfl)
          have hg5g : w5.heap[g]? = some (.cells cur.toArray 66 (0, 0)) := by rw [hg5h]; exact hg4
          have hapv : ∀ b, v5.ownBlock = some b → b ≠ g := fun b hb e => by
            rcases hor5 with h | h
            · exact hap b (h ▸ hb) e
            · rw [h] at hb
              injection hb with hb
              simp only [World.size_alloc] at hb
              omega
          have hone4 : ∀ u ∈ [vAt V 0, vAt V 1, vAt V 2, vAt V 3], u.oneCell' = true := fun u hu => by
            simp only [List.mem_cons, List.not_mem_nil, or_false] at hu
            rcases hu with rfl | rfl | rfl | rfl <;> rfl
          have hfit : i * 6 + 1 + 4 ≤ cur.length := by omega
          have hlen4 : i * 6 + 1 + [vAt V 0, vAt V 1, vAt V 2, vAt V 3].length ≤ cur.length := hfit
          have hgl5 : g < w5.heap.size := (Array.getElem?_eq_some_iff.1 hg5g).1
          clear c0 ho4 hg5 hg4 hg3 hl4 hg5h
          replace hVe := Lib.hid hVe
          obtain ⟨_, b0, b1, b2, b3, _, _, _, _⟩ := v6.four
          obtain ⟨p5, cap5, rfl⟩ : ∃ p cap, v5 = .slice p (k + 1) cap := by
            obtain ⟨p, cap, h, _⟩ := Sl.shape (Sl.of_owns ho5)
            exact ⟨p, cap, h⟩
          go_wp2_with fail
          try simp only [Act.put, List.setIfInBounds_toArray, List.set_cons_succ, List.set_cons_zero]
          refine Dm.wp_region_ext 15 (Dm.bits 15 0) hX5 (by kernel_rfl) (by kernel_rfl) (by kernel_rfl) ?_
          refine Dm.wpE_take (i := 0) (listed' := (Dm.bits 15 1)) (by kernel_rfl) (by kernel_rfl) rfl (fun _ _ _ _ h => h) ?_; apply Exists.intro; refine And.intro (fun x => ?_) ?_
          · go_big_quiet_step (((go_at_call 25; exact Calls.quietE (CS.out _)))); exact wpQuiet_nil rfl
          refine Dm.wpE_take (i := 1) (listed' := (Dm.bits 15 3)) (by kernel_rfl) (by kernel_rfl) rfl (fun _ _ _ _ h => h) ?_; apply Exists.intro; refine And.intro (fun x => ?_) ?_
          · go_big_quiet_step (((go_at_call 25; exact Calls.quietE (CS.out _)))); exact wpQuiet_nil rfl
          refine Dm.wpE_take (i := 2) (listed' := (Dm.bits 15 7)) (by kernel_rfl) (by kernel_rfl) rfl (fun _ _ _ _ h => h) ?_; apply Exists.intro; refine And.intro (fun x => ?_) ?_
          · go_big_quiet_step (((go_at_call 25; exact Calls.quietE (CS.out _)))); exact wpQuiet_nil rfl
          refine Dm.wpE_take (i := 3) (listed' := (Dm.bits 15 15)) (by kernel_rfl) (by kernel_rfl) rfl (fun _ _ _ _ h => h) ?_; apply Exists.intro; refine And.intro (fun x => ?_) ?_
          · go_big_quiet_step (((go_at_call 25; exact Calls.quietE (CS.out _)))); exact wpQuiet_nil rfl
          refine Dm.wpE_take (i := 4) (listed' := (Dm.bits 15 31)) (by kernel_rfl) (by kernel_rfl) rfl (fun _ _ _ _ h => h) ?_; apply Exists.intro; refine And.intro (fun x => ?_) ?_
          · go_big_quiet_step (((go_at_call 25; exact Calls.quietE (CS.out _)))); exact wpQuiet_nil rfl
          refine Dm.wpE_take (i := 5) (listed' := (Dm.bits 15 63)) (by kernel_rfl) (by kernel_rfl) rfl (fun _ _ _ _ h => h) ?_; apply Exists.intro; refine And.intro (fun x => ?_) ?_
          · go_big_quiet_step (((go_at_call 25; exact Calls.quietE (CS.out _)))); exact wpQuiet_nil rfl
          refine Dm.wpE_take (i := 7) (listed' := (Dm.bits 15 191)) (by kernel_rfl) (by kernel_rfl) rfl (fun _ _ _ _ h => h) ?_; apply Exists.intro; refine And.intro (fun x => ?_) ?_
          · go_big_quiet_step (((go_at_call 25; exact Calls.quietE (CS.out _)))); exact wpQuiet_nil rfl
          refine Dm.wpE_one (i := 6) (listed' := (Dm.bits 15 255)) (by kernel_rfl) (by kernel_rfl) rfl hX5 (fun w1a hx1a => ?_)
          have hX1a := Ext.trans hX5 hx1a
          have hgz := Ext.heap hg5g hx1a
          have ho5b := Ext.row ho5 hx1a
          obtain ⟨_, _, a1, a2, a3, a4, _⟩ := (hSRw.out w1a ⟨_, hX1a, rfl⟩ hgz)
          go_wp2_with fail
          clear a1 a2 a3 a4
          have hX1b := hX1a
          try simp only [Exit.then, Act.put]
          refine Dm.wpE_take (i := 8) (listed' := (Dm.bits 15 511)) (by kernel_rfl) (by kernel_rfl) rfl (fun _ _ _ _ h => h) ?_; apply Exists.intro; refine And.intro (fun x => ?_) ?_
          · go_big_quiet_step (((go_at_call 25; exact Calls.quietE (CS.out _)))); exact wpQuiet_nil rfl
          refine Dm.wpE_take (i := 9) (listed' := (Dm.bits 15 1023)) (by kernel_rfl) (by kernel_rfl) rfl (fun _ _ _ _ h => h) ?_; apply Exists.intro; refine And.intro (fun x => ?_) ?_
          · go_big_quiet_step (((go_at_call 25; exact Calls.quietE (CS.out _)))); exact wpQuiet_nil rfl
          refine Dm.wpE_take (i := 10) (listed' := (Dm.bits 15 2047)) (by kernel_rfl) (by kernel_rfl) rfl (fun _ _ _ _ h => h) ?_; apply Exists.intro; refine And.intro (fun x => ?_) ?_
          · go_big_quiet_step (((go_at_call 25; exact Calls.quietE (CS.out _)))); exact wpQuiet_nil rfl
          refine Dm.wpE_take (i := 11) (listed' := (Dm.bits 15 4095)) (by kernel_rfl) (by kernel_rfl) rfl (fun _ _ _ _ h => h) ?_; apply Exists.intro; refine And.intro (fun x => ?_) ?_
          · go_big_quiet_step (((go_at_call 25; exact Calls.quietE (CS.out _)))); exact wpQuiet_nil rfl
          refine Dm.wpE_take (i := 12) (listed' := (Dm.bits 15 8191)) (by kernel_rfl) (by kernel_rfl) rfl (fun _ _ _ _ h => h) ?_; apply Exists.intro; refine And.intro (fun x => ?_) ?_
          · go_big_quiet_step (((go_at_call 25; exact Calls.quietE (CS.out _)))); exact wpQuiet_nil rfl
          refine Dm.wpE_take (i := 13) (listed' := (Dm.bits 15 16383)) (by kernel_rfl) (by kernel_rfl) rfl (fun _ _ _ _ h => h) ?_; apply Exists.intro; refine And.intro (fun x => ?_) ?_
          · go_big_quiet_step (((go_at_call 25; exact Calls.quietE (CS.out _)))); exact wpQuiet_nil rfl
          refine Dm.wpE_one (i := 14) (listed' := (Dm.bits 15 32767)) (by kernel_rfl) (by kernel_rfl) rfl hX1b (fun w2a hx2a => ?_)
          have hX2a := Ext.trans hX1b hx2a
          replace hgz := Ext.heap hgz hx2a
          replace ho5b := Ext.row ho5b hx2a
          refine wpList_store_at rfl _ _ _ rfl (g := g) (off := i * 6 + 1) (cells := [vAt V 0, vAt V 1, vAt V 2, vAt V 3]) rfl rfl rfl (by kernel_rfl) hgz hfit hone4 ?_
          intro w2b hg6 hgr6
          have hX2b := hX2a.put hgr6 hbg
          have ho6 := row_grown ho5b hgr6 (fun b hb e => hapv b hb (by injection e with e; exact e.symm))
          refine wpList_nil ?_
          try simp only [Exit.then, Act.put]
          refine Dm.wpE_done (by kernel_rfl) hX2b (fun w3a hx3a => ?_)
          have hX3a := Ext.trans hX2b hx3a
          replace hg6 := Ext.heap hg6 hx3a
          replace ho6 := Ext.row ho6 hx3a
          clear CS hSRw
          go_wp2
          refine ⟨⟨k + 1, G.set i (setFree (slAt G i) V), acc ++ [node], _, by omega, by simp, by rw [List.length_set]; exact hGl'.out, by rw [List.length_append, hal]; rfl, hX3a, hg6, by rw [length_splice _ _ _ hlen4]; exact hcl,
            by rw [List.map_append]; exact ho6, hapv, ⟨?_, fun r hr => ?_, fun r hr => ?_, fun r hr => ?_, hF1.out⟩⟩, by simp [intOf]; omega⟩
          · rw [splice_take _ _ (by show i * 6 + 1 + 4 ≤ _; omega) (by rw [hcl]; exact Nat.mul_le_mul_right _ hnc), htk, slotCells_set hiG V]
          · rcases set_mem hr with h | h
            · exact hlG r h
            · rw [h]; exact hlG (slAt G i) (slAt_mem hiG)
          · rcases set_mem hr with h | h
            · exact hoG r h
            · rw [h]; exact hOV
          · rcases set_mem hr with h | h
            · exact hkG r h
            · rw [h]; exact hkG (slAt G i) (slAt_mem hiG)
      · obtain rfl : k = N := by omega
        obtain ⟨_, _, _, _, hFA⟩ := HH.out
        have hS := Lib.hid hFA.end
        have hvo := Sl.of_owns hown
        clear HH hFA
        go_wp2
        go_ret2
        refine ⟨_, by rw [hS.out]; rfl, ?_, hW.trans hb⟩
        rw [hS.out]
        show Sl _ 1 _ acc.length _
        rw [hal]
        exact hvo

end Go.Proofs.Ytibimbcjnjefdaa
