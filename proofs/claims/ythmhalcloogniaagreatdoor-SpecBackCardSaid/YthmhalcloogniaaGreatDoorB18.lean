/- Texts one behind the other: Chapter 11: the walk of the laws' made jobs. -/
import Derived.Test.YthmhalcloogniaaGreatDoorB27
import Derived.Test.YthmhalcloogniaaGreatDoorB17
import Derived.Test.YthmhalcloogniaaGreatDoorB6
import Derived.Deep.Cut
namespace Go.Dm
open Go Go.RowKit
/-- The amounts that are there when so many are stored. -/
def partD (D : Nat → Nat) (k i : Nat) : Nat := if i < k then D i else 0
theorem cells_step (s0 : ByteArray) (D : Nat → Nat) (n1 n2 n3 : Int) (v : Value) {k : Nat} (hk : k < 4) : ([.string s0, .int .u64 (partD D k 0 : Nat), .int .u64 (partD D k 1 : Nat), .int .u64 (partD D k 2 : Nat), .int .u64 (partD D k 3 : Nat), .int .i64 n1, .int .i64 n2, .int .i64 n3, v] : List Value).set (1 + k) (.int .u64 (D k : Nat)) = [.string s0, .int .u64 (partD D (k + 1) 0 : Nat), .int .u64 (partD D (k + 1) 1 : Nat), .int .u64 (partD D (k + 1) 2 : Nat), .int .u64 (partD D (k + 1) 3 : Nat), .int .i64 n1, .int .i64 n2, .int .i64 n3, v] := by
  match k, hk with
  | 0, _ => simp [partD]
  | 1, _ => simp [partD]
  | 2, _ => simp [partD]
  | 3, _ => simp [partD]
theorem strs_lit1 (w : World) (e : TypeId) (a : ByteArray) : Strs (w.alloc (.cells #[.string a] e)) (.slice (some ⟨w.heap.size, 0, none⟩) 1 1) [a] := Sl.lit w e 1 1 #[.string a] rfl (by simp [maxLen])
theorem strs_lit2 (w : World) (e : TypeId) (a b : ByteArray) : Strs (w.alloc (.cells #[.string a, .string b] e)) (.slice (some ⟨w.heap.size, 0, none⟩) 2 2) [a, b] := Sl.lit w e 1 2 #[.string a, .string b] rfl (by simp [maxLen])
theorem terms_lit1 (w : World) (e : TypeId) (k : ByteArray) (no : Bool) (v : Value) (l : List ByteArray) (h : Strs w v l) : Terms (w.alloc (.cells #[.string k, .bool no, v] e)) (.slice (some ⟨w.heap.size, 0, none⟩) 1 1) [(k, no, v, l)] := by
  refine ⟨Sl.lit w e 3 1 #[.string k, .bool no, v] rfl (by simp [maxLen]), fun r hr => ?_⟩
  rw [List.mem_singleton] at hr
  subst hr
  exact h.ext ((Ext.refl w).alloc _)
end Go.Dm
namespace Go.Proofs.YthmhalcloogniaaGreatDoor
open Go.RowKit Go.Dm
set_option maxHeartbeats 1000000 in
theorem madeAt_w (zs : List Int) (v : Value) (c k : Nat) (w : World) (hz : ∀ z ∈ zs, 0 ≤ z ∧ z ≤ 255) (hx : Nums w .u8 v zs) (_hcl : c < w.heap.size) (hc : w.cell? ⟨c, 0, none⟩ = some v) :
    Calls Tryz.prog 68 #[.int .i64 (k : Nat), .pointer (some ⟨c, 0, none⟩)] w fun e w' => e = .returned (.int .i64 (byN zs k : Nat)) ∧ Ext w w' := by
  obtain ⟨q, cap, rfl, hcap, hcm⟩ := hx.shape
  have hn := numAt_byte hz k
  have hb := byN_eq hz k
  by_cases hk : k < zs.length
  · obtain ⟨b, off, rfl, hbl, c0⟩ := hx.at hk
    rw [hb] at c0 hn
    generalize byN zs k = n at *
    clear hb
    have hn2 : n ≤ 255 := by omega
    go_enter Tryz.func68, Tryz.ntmps68
    go_wp2
    go_ret
    exact ⟨rfl, Ext.refl _⟩
  · have h0 : byN zs k = 0 := by
      have e : zs.getD k 0 = 0 := by simp [Nat.le_of_not_lt hk]
      unfold byN numAt
      rw [e]; rfl
    rw [h0]
    clear hb hn h0
    go_enter Tryz.func68, Tryz.ntmps68
    go_wp2
    go_ret
    exact ⟨rfl, Ext.refl _⟩

set_option maxHeartbeats 16000000 in
set_option maxRecDepth 100000 in
theorem xmade_w (zs : List Int) (va : Value) (w : World) (hz : ∀ z ∈ zs, 0 ≤ z ∧ z ≤ 255) (hx : Nums w .u8 va zs) :
    Calls Tryz.prog 26 #[va] w fun e w' => ∃ v R, e = .returned (spVal (madePa zs) (vG (madeD zs)) (madeN zs) v) ∧ Terms w' v R ∧ R.map rowT = madeT zs ∧ Ext w w' := by
  obtain ⟨q, cap, rfl, hcap, hcm⟩ := hx.shape
  have hV0 : CB w.heap.size [.slice q zs.length cap] (w.alloc (.cells #[.slice q zs.length cap] 56)) := CB.new w #[.slice q zs.length cap] 56
  have hB0 : CB (w.heap.size + 1) [.string ⟨#[]⟩, .int .u64 0, .int .u64 0, .int .u64 0, .int .u64 0, .int .i64 0, .int .i64 0, .int .i64 0, .slice none 0 0] ((w.alloc (.cells #[.slice q zs.length cap] 56)).alloc (.cells #[.string ⟨#[]⟩, .int .u64 0, .int .u64 0, .int .u64 0, .int .u64 0, .int .i64 0, .int .i64 0, .int .i64 0, .slice none 0 0] 27)) := by
    have h := CB.new (w.alloc (.cells #[.slice q zs.length cap] 56)) #[.string ⟨#[]⟩, .int .u64 0, .int .u64 0, .int .u64 0, .int .u64 0, .int .i64 0, .int .i64 0, .int .i64 0, .slice none 0 0] 27
    rw [World.size_alloc] at h
    exact h
  have hE0 : Ext w ((w.alloc (.cells #[.slice q zs.length cap] 56)).alloc (.cells #[.string ⟨#[]⟩, .int .u64 0, .int .u64 0, .int .u64 0, .int .u64 0, .int .i64 0, .int .i64 0, .int .i64 0, .slice none 0 0] 27)) := ((Ext.refl _).alloc _).alloc _
  replace hV0 := hV0.ext ((Ext.refl _).alloc (.cells #[.string ⟨#[]⟩, .int .u64 0, .int .u64 0, .int .u64 0, .int .u64 0, .int .i64 0, .int .i64 0, .int .i64 0, .slice none 0 0] 27))
  have N := fun (k : Nat) U (h : Ext w U) (hcl : CB w.heap.size [.slice q zs.length cap] U) => madeAt_w zs _ w.heap.size k U hz (hx.ext h) hcl.lt (hcl.cell 0 (by simp))
  have hle := fun k => byN_le hz k
  have hD : ∀ k, k < 4 → vG (madeD zs) k = byN zs (4 + k) * 2 ^ (byN zs (8 + k) % 50) := fun k hk => by unfold vG madeD; simp [hk]
  have hsh : ∀ k, byN zs (4 + k) * 2 ^ (byN zs (8 + k) % 50) < 288230376151711744 := fun k => shl_lt (hle _)
  have N0 := N 0
  have N1 := N 1
  have N2 := N 2
  have N3 := N 3
  have N12 := N 12
  have N13 := N 13
  have m0 := hle 0
  have m1 := hle 1
  have m2 := hle 2
  have m3 := hle 3
  have m12 := hle 12
  have m13 := hle 13
  have e1 := byN_eq hz 1
  have e2 := byN_eq hz 2
  have e3 := byN_eq hz 3
  unfold madePa madeN madeT
  rw [e1, e2, e3]
  clear e1 e2 e3
  generalize vG (madeD zs) = D at *
  generalize byN zs 0 = z0 at *
  generalize byN zs 1 = z1 at *
  generalize byN zs 2 = z2 at *
  generalize byN zs 3 = z3 at *
  generalize byN zs 12 = z12 at *
  generalize byN zs 13 = z13 at *
  obtain ⟨j, hj4, hj⟩ : ∃ j : Nat, j < 4 ∧ z0 % 4 = j := ⟨z0 % 4, by omega, rfl⟩
  have hjq : (z0 : Int) % 4 = (j : Int) := by omega
  rw [hj]
  clear hj
  obtain ⟨s0, hs0⟩ : ∃ s0, s0 = strAt paths4 j := ⟨_, rfl⟩
  rw [← hs0]
  obtain ⟨n1, hn1, g1, g2⟩ : ∃ n : Int, (z1 : Int) % 8 = n ∧ 0 ≤ n ∧ n < 8 := ⟨_, rfl, by omega, by omega⟩
  obtain ⟨n2, hn2, g3, g4⟩ : ∃ n : Int, (z2 : Int) % 10 = n ∧ 0 ≤ n ∧ n < 10 := ⟨_, rfl, by omega, by omega⟩
  obtain ⟨n3, hn3, g5, g6⟩ : ∃ n : Int, (z3 : Int) % 100 = n ∧ 0 ≤ n ∧ n < 100 := ⟨_, rfl, by omega, by omega⟩
  rw [hn1, hn2, hn3]
  obtain ⟨T, hT⟩ : ∃ T : List TermS, T = if z12 % 3 = 0 then [] else [(zoneB, z12 % 2 == 1, vals3 (z13 % 3))] := ⟨_, rfl⟩
  rw [← hT]
  replace N := Lib.hid N
  replace N0 := Lib.hid N0
  replace N1 := Lib.hid N1
  replace N2 := Lib.hid N2
  replace N3 := Lib.hid N3
  replace N12 := Lib.hid N12
  replace N13 := Lib.hid N13
  replace hD := Lib.hid hD
  replace hsh := Lib.hid hsh
  replace hs0 := Lib.hid hs0
  replace hle := Lib.hid hle
  replace hT := Lib.hid hT
  generalize hW0 : (w.alloc (.cells #[.slice q zs.length cap] 56)).alloc (.cells #[.string ⟨#[]⟩, .int .u64 0, .int .u64 0, .int .u64 0, .int .u64 0, .int .i64 0, .int .i64 0, .int .i64 0, .slice none 0 0] 27) = W at *
  have v0 := hV0.cell 0 (by simp)
  have vl := hV0.lt
  change World.cell? _ _ = some (.slice q zs.length cap) at v0
  go_enter Tryz.func26, Tryz.ntmps26
  go_upto_region 2 with fail
  go_cut [4] from 6 (fun p w' => ∃ b2 : Nat, p = .pointer (some ⟨b2, 0, none⟩) ∧ w.heap.size + 1 < b2 ∧ Ext w w' ∧ CB w.heap.size [.slice q zs.length cap] w' ∧ CB (w.heap.size + 1) [.string ⟨#[]⟩, .int .u64 0, .int .u64 0, .int .u64 0, .int .u64 0, .int .i64 0, .int .i64 0, .int .i64 0, .slice none 0 0] w' ∧ CB b2 [.string s0, .int .u64 0, .int .u64 0, .int .u64 0, .int .u64 0, .int .i64 (1 + n1), .int .i64 n2, .int .i64 (1 + n3), .slice none 0 0] w')
  case first =>
    try simp only [Act.put, List.setIfInBounds_toArray, List.set_cons_succ, List.set_cons_zero]
    refine Dm.wp_region_ext 20 (Dm.bits 20 0) (Ext.refl W) (by kernel_rfl) (by kernel_rfl) (by kernel_rfl) ?_
    refine Dm.wpE_take (i := 1) (listed' := (Dm.bits 20 2)) (by kernel_rfl) (by kernel_rfl) rfl (fun _ _ _ _ h => h) ?_; apply Exists.intro; refine And.intro (fun x => ?_) ?_
    · go_big_quiet_step ((first | (go_at_call 68; with_reducible exact Calls.quietE (N0.out _ (Ext.trans hE0 (by repeat (first | assumption | exact Ext.refl _ | refine Ext.trans ?_ (ext_grow _ _)))) (hV0.ext (by repeat (first | assumption | exact Ext.refl _ | refine Ext.trans ?_ (ext_grow _ _)))))) | (go_at_call 68; with_reducible exact Calls.quietE (N1.out _ (Ext.trans hE0 (by repeat (first | assumption | exact Ext.refl _ | refine Ext.trans ?_ (ext_grow _ _)))) (hV0.ext (by repeat (first | assumption | exact Ext.refl _ | refine Ext.trans ?_ (ext_grow _ _)))))) | (go_at_call 68; with_reducible exact Calls.quietE (N2.out _ (Ext.trans hE0 (by repeat (first | assumption | exact Ext.refl _ | refine Ext.trans ?_ (ext_grow _ _)))) (hV0.ext (by repeat (first | assumption | exact Ext.refl _ | refine Ext.trans ?_ (ext_grow _ _)))))) | (go_at_call 68; with_reducible exact Calls.quietE (N3.out _ (Ext.trans hE0 (by repeat (first | assumption | exact Ext.refl _ | refine Ext.trans ?_ (ext_grow _ _)))) (hV0.ext (by repeat (first | assumption | exact Ext.refl _ | refine Ext.trans ?_ (ext_grow _ _)))))))); exact wpQuiet_nil rfl
    refine Dm.wpE_take (i := 2) (listed' := (Dm.bits 20 6)) (by kernel_rfl) (by kernel_rfl) rfl (fun _ _ _ _ h => h) ?_; apply Exists.intro; refine And.intro (fun x => ?_) ?_
    · go_big_quiet_step ((first | (go_at_call 68; with_reducible exact Calls.quietE (N0.out _ (Ext.trans hE0 (by repeat (first | assumption | exact Ext.refl _ | refine Ext.trans ?_ (ext_grow _ _)))) (hV0.ext (by repeat (first | assumption | exact Ext.refl _ | refine Ext.trans ?_ (ext_grow _ _)))))) | (go_at_call 68; with_reducible exact Calls.quietE (N1.out _ (Ext.trans hE0 (by repeat (first | assumption | exact Ext.refl _ | refine Ext.trans ?_ (ext_grow _ _)))) (hV0.ext (by repeat (first | assumption | exact Ext.refl _ | refine Ext.trans ?_ (ext_grow _ _)))))) | (go_at_call 68; with_reducible exact Calls.quietE (N2.out _ (Ext.trans hE0 (by repeat (first | assumption | exact Ext.refl _ | refine Ext.trans ?_ (ext_grow _ _)))) (hV0.ext (by repeat (first | assumption | exact Ext.refl _ | refine Ext.trans ?_ (ext_grow _ _)))))) | (go_at_call 68; with_reducible exact Calls.quietE (N3.out _ (Ext.trans hE0 (by repeat (first | assumption | exact Ext.refl _ | refine Ext.trans ?_ (ext_grow _ _)))) (hV0.ext (by repeat (first | assumption | exact Ext.refl _ | refine Ext.trans ?_ (ext_grow _ _)))))))); exact wpQuiet_nil rfl
    refine Dm.wpE_take (i := 3) (listed' := (Dm.bits 20 14)) (by kernel_rfl) (by kernel_rfl) rfl (fun _ _ _ _ h => h) ?_; apply Exists.intro; refine And.intro (fun x => ?_) ?_
    · go_big_quiet_step ((first | (go_at_call 68; with_reducible exact Calls.quietE (N0.out _ (Ext.trans hE0 (by repeat (first | assumption | exact Ext.refl _ | refine Ext.trans ?_ (ext_grow _ _)))) (hV0.ext (by repeat (first | assumption | exact Ext.refl _ | refine Ext.trans ?_ (ext_grow _ _)))))) | (go_at_call 68; with_reducible exact Calls.quietE (N1.out _ (Ext.trans hE0 (by repeat (first | assumption | exact Ext.refl _ | refine Ext.trans ?_ (ext_grow _ _)))) (hV0.ext (by repeat (first | assumption | exact Ext.refl _ | refine Ext.trans ?_ (ext_grow _ _)))))) | (go_at_call 68; with_reducible exact Calls.quietE (N2.out _ (Ext.trans hE0 (by repeat (first | assumption | exact Ext.refl _ | refine Ext.trans ?_ (ext_grow _ _)))) (hV0.ext (by repeat (first | assumption | exact Ext.refl _ | refine Ext.trans ?_ (ext_grow _ _)))))) | (go_at_call 68; with_reducible exact Calls.quietE (N3.out _ (Ext.trans hE0 (by repeat (first | assumption | exact Ext.refl _ | refine Ext.trans ?_ (ext_grow _ _)))) (hV0.ext (by repeat (first | assumption | exact Ext.refl _ | refine Ext.trans ?_ (ext_grow _ _)))))))); exact wpQuiet_nil rfl
    refine Dm.wpE_take (i := 6) (listed' := (Dm.bits 20 78)) (by kernel_rfl) (by kernel_rfl) rfl (fun _ _ _ _ h => h) ?_; apply Exists.intro; refine And.intro (fun x => ?_) ?_
    · go_big_quiet_step ((first | (go_at_call 68; with_reducible exact Calls.quietE (N0.out _ (Ext.trans hE0 (by repeat (first | assumption | exact Ext.refl _ | refine Ext.trans ?_ (ext_grow _ _)))) (hV0.ext (by repeat (first | assumption | exact Ext.refl _ | refine Ext.trans ?_ (ext_grow _ _)))))) | (go_at_call 68; with_reducible exact Calls.quietE (N1.out _ (Ext.trans hE0 (by repeat (first | assumption | exact Ext.refl _ | refine Ext.trans ?_ (ext_grow _ _)))) (hV0.ext (by repeat (first | assumption | exact Ext.refl _ | refine Ext.trans ?_ (ext_grow _ _)))))) | (go_at_call 68; with_reducible exact Calls.quietE (N2.out _ (Ext.trans hE0 (by repeat (first | assumption | exact Ext.refl _ | refine Ext.trans ?_ (ext_grow _ _)))) (hV0.ext (by repeat (first | assumption | exact Ext.refl _ | refine Ext.trans ?_ (ext_grow _ _)))))) | (go_at_call 68; with_reducible exact Calls.quietE (N3.out _ (Ext.trans hE0 (by repeat (first | assumption | exact Ext.refl _ | refine Ext.trans ?_ (ext_grow _ _)))) (hV0.ext (by repeat (first | assumption | exact Ext.refl _ | refine Ext.trans ?_ (ext_grow _ _)))))))); exact wpQuiet_nil rfl
    refine Dm.wpE_take (i := 7) (listed' := (Dm.bits 20 206)) (by kernel_rfl) (by kernel_rfl) rfl (fun _ _ _ _ h => h) ?_; apply Exists.intro; refine And.intro (fun x => ?_) ?_
    · go_big_quiet_step ((first | (go_at_call 68; with_reducible exact Calls.quietE (N0.out _ (Ext.trans hE0 (by repeat (first | assumption | exact Ext.refl _ | refine Ext.trans ?_ (ext_grow _ _)))) (hV0.ext (by repeat (first | assumption | exact Ext.refl _ | refine Ext.trans ?_ (ext_grow _ _)))))) | (go_at_call 68; with_reducible exact Calls.quietE (N1.out _ (Ext.trans hE0 (by repeat (first | assumption | exact Ext.refl _ | refine Ext.trans ?_ (ext_grow _ _)))) (hV0.ext (by repeat (first | assumption | exact Ext.refl _ | refine Ext.trans ?_ (ext_grow _ _)))))) | (go_at_call 68; with_reducible exact Calls.quietE (N2.out _ (Ext.trans hE0 (by repeat (first | assumption | exact Ext.refl _ | refine Ext.trans ?_ (ext_grow _ _)))) (hV0.ext (by repeat (first | assumption | exact Ext.refl _ | refine Ext.trans ?_ (ext_grow _ _)))))) | (go_at_call 68; with_reducible exact Calls.quietE (N3.out _ (Ext.trans hE0 (by repeat (first | assumption | exact Ext.refl _ | refine Ext.trans ?_ (ext_grow _ _)))) (hV0.ext (by repeat (first | assumption | exact Ext.refl _ | refine Ext.trans ?_ (ext_grow _ _)))))))); exact wpQuiet_nil rfl
    refine Dm.wpE_take (i := 8) (listed' := (Dm.bits 20 462)) (by kernel_rfl) (by kernel_rfl) rfl (fun _ _ _ _ h => h) ?_; apply Exists.intro; refine And.intro (fun x => ?_) ?_
    · go_big_quiet_step ((first | (go_at_call 68; with_reducible exact Calls.quietE (N0.out _ (Ext.trans hE0 (by repeat (first | assumption | exact Ext.refl _ | refine Ext.trans ?_ (ext_grow _ _)))) (hV0.ext (by repeat (first | assumption | exact Ext.refl _ | refine Ext.trans ?_ (ext_grow _ _)))))) | (go_at_call 68; with_reducible exact Calls.quietE (N1.out _ (Ext.trans hE0 (by repeat (first | assumption | exact Ext.refl _ | refine Ext.trans ?_ (ext_grow _ _)))) (hV0.ext (by repeat (first | assumption | exact Ext.refl _ | refine Ext.trans ?_ (ext_grow _ _)))))) | (go_at_call 68; with_reducible exact Calls.quietE (N2.out _ (Ext.trans hE0 (by repeat (first | assumption | exact Ext.refl _ | refine Ext.trans ?_ (ext_grow _ _)))) (hV0.ext (by repeat (first | assumption | exact Ext.refl _ | refine Ext.trans ?_ (ext_grow _ _)))))) | (go_at_call 68; with_reducible exact Calls.quietE (N3.out _ (Ext.trans hE0 (by repeat (first | assumption | exact Ext.refl _ | refine Ext.trans ?_ (ext_grow _ _)))) (hV0.ext (by repeat (first | assumption | exact Ext.refl _ | refine Ext.trans ?_ (ext_grow _ _)))))))); exact wpQuiet_nil rfl
    refine Dm.wpE_take (i := 9) (listed' := (Dm.bits 20 974)) (by kernel_rfl) (by kernel_rfl) rfl (fun _ _ _ _ h => h) ?_; apply Exists.intro; refine And.intro (fun x => ?_) ?_
    · go_big_quiet_step ((first | (go_at_call 68; with_reducible exact Calls.quietE (N0.out _ (Ext.trans hE0 (by repeat (first | assumption | exact Ext.refl _ | refine Ext.trans ?_ (ext_grow _ _)))) (hV0.ext (by repeat (first | assumption | exact Ext.refl _ | refine Ext.trans ?_ (ext_grow _ _)))))) | (go_at_call 68; with_reducible exact Calls.quietE (N1.out _ (Ext.trans hE0 (by repeat (first | assumption | exact Ext.refl _ | refine Ext.trans ?_ (ext_grow _ _)))) (hV0.ext (by repeat (first | assumption | exact Ext.refl _ | refine Ext.trans ?_ (ext_grow _ _)))))) | (go_at_call 68; with_reducible exact Calls.quietE (N2.out _ (Ext.trans hE0 (by repeat (first | assumption | exact Ext.refl _ | refine Ext.trans ?_ (ext_grow _ _)))) (hV0.ext (by repeat (first | assumption | exact Ext.refl _ | refine Ext.trans ?_ (ext_grow _ _)))))) | (go_at_call 68; with_reducible exact Calls.quietE (N3.out _ (Ext.trans hE0 (by repeat (first | assumption | exact Ext.refl _ | refine Ext.trans ?_ (ext_grow _ _)))) (hV0.ext (by repeat (first | assumption | exact Ext.refl _ | refine Ext.trans ?_ (ext_grow _ _)))))))); exact wpQuiet_nil rfl
    refine Dm.wpE_take (i := 10) (listed' := (Dm.bits 20 1998)) (by kernel_rfl) (by kernel_rfl) rfl (fun _ _ _ _ h => h) ?_; apply Exists.intro; refine And.intro (fun x => ?_) ?_
    · go_big_quiet_step ((first | (go_at_call 68; with_reducible exact Calls.quietE (N0.out _ (Ext.trans hE0 (by repeat (first | assumption | exact Ext.refl _ | refine Ext.trans ?_ (ext_grow _ _)))) (hV0.ext (by repeat (first | assumption | exact Ext.refl _ | refine Ext.trans ?_ (ext_grow _ _)))))) | (go_at_call 68; with_reducible exact Calls.quietE (N1.out _ (Ext.trans hE0 (by repeat (first | assumption | exact Ext.refl _ | refine Ext.trans ?_ (ext_grow _ _)))) (hV0.ext (by repeat (first | assumption | exact Ext.refl _ | refine Ext.trans ?_ (ext_grow _ _)))))) | (go_at_call 68; with_reducible exact Calls.quietE (N2.out _ (Ext.trans hE0 (by repeat (first | assumption | exact Ext.refl _ | refine Ext.trans ?_ (ext_grow _ _)))) (hV0.ext (by repeat (first | assumption | exact Ext.refl _ | refine Ext.trans ?_ (ext_grow _ _)))))) | (go_at_call 68; with_reducible exact Calls.quietE (N3.out _ (Ext.trans hE0 (by repeat (first | assumption | exact Ext.refl _ | refine Ext.trans ?_ (ext_grow _ _)))) (hV0.ext (by repeat (first | assumption | exact Ext.refl _ | refine Ext.trans ?_ (ext_grow _ _)))))))); exact wpQuiet_nil rfl
    refine Dm.wpE_take (i := 11) (listed' := (Dm.bits 20 4046)) (by kernel_rfl) (by kernel_rfl) rfl (fun _ _ _ _ h => h) ?_; apply Exists.intro; refine And.intro (fun x => ?_) ?_
    · go_big_quiet_step ((first | (go_at_call 68; with_reducible exact Calls.quietE (N0.out _ (Ext.trans hE0 (by repeat (first | assumption | exact Ext.refl _ | refine Ext.trans ?_ (ext_grow _ _)))) (hV0.ext (by repeat (first | assumption | exact Ext.refl _ | refine Ext.trans ?_ (ext_grow _ _)))))) | (go_at_call 68; with_reducible exact Calls.quietE (N1.out _ (Ext.trans hE0 (by repeat (first | assumption | exact Ext.refl _ | refine Ext.trans ?_ (ext_grow _ _)))) (hV0.ext (by repeat (first | assumption | exact Ext.refl _ | refine Ext.trans ?_ (ext_grow _ _)))))) | (go_at_call 68; with_reducible exact Calls.quietE (N2.out _ (Ext.trans hE0 (by repeat (first | assumption | exact Ext.refl _ | refine Ext.trans ?_ (ext_grow _ _)))) (hV0.ext (by repeat (first | assumption | exact Ext.refl _ | refine Ext.trans ?_ (ext_grow _ _)))))) | (go_at_call 68; with_reducible exact Calls.quietE (N3.out _ (Ext.trans hE0 (by repeat (first | assumption | exact Ext.refl _ | refine Ext.trans ?_ (ext_grow _ _)))) (hV0.ext (by repeat (first | assumption | exact Ext.refl _ | refine Ext.trans ?_ (ext_grow _ _)))))))); exact wpQuiet_nil rfl
    refine Dm.wpE_take (i := 12) (listed' := (Dm.bits 20 8142)) (by kernel_rfl) (by kernel_rfl) rfl (fun _ _ _ _ h => h) ?_; apply Exists.intro; refine And.intro (fun x => ?_) ?_
    · go_big_quiet_step ((first | (go_at_call 68; with_reducible exact Calls.quietE (N0.out _ (Ext.trans hE0 (by repeat (first | assumption | exact Ext.refl _ | refine Ext.trans ?_ (ext_grow _ _)))) (hV0.ext (by repeat (first | assumption | exact Ext.refl _ | refine Ext.trans ?_ (ext_grow _ _)))))) | (go_at_call 68; with_reducible exact Calls.quietE (N1.out _ (Ext.trans hE0 (by repeat (first | assumption | exact Ext.refl _ | refine Ext.trans ?_ (ext_grow _ _)))) (hV0.ext (by repeat (first | assumption | exact Ext.refl _ | refine Ext.trans ?_ (ext_grow _ _)))))) | (go_at_call 68; with_reducible exact Calls.quietE (N2.out _ (Ext.trans hE0 (by repeat (first | assumption | exact Ext.refl _ | refine Ext.trans ?_ (ext_grow _ _)))) (hV0.ext (by repeat (first | assumption | exact Ext.refl _ | refine Ext.trans ?_ (ext_grow _ _)))))) | (go_at_call 68; with_reducible exact Calls.quietE (N3.out _ (Ext.trans hE0 (by repeat (first | assumption | exact Ext.refl _ | refine Ext.trans ?_ (ext_grow _ _)))) (hV0.ext (by repeat (first | assumption | exact Ext.refl _ | refine Ext.trans ?_ (ext_grow _ _)))))))); exact wpQuiet_nil rfl
    refine Dm.wpE_take (i := 13) (listed' := (Dm.bits 20 16334)) (by kernel_rfl) (by kernel_rfl) rfl (fun _ _ _ _ h => h) ?_; apply Exists.intro; refine And.intro (fun x => ?_) ?_
    · go_big_quiet_step ((first | (go_at_call 68; with_reducible exact Calls.quietE (N0.out _ (Ext.trans hE0 (by repeat (first | assumption | exact Ext.refl _ | refine Ext.trans ?_ (ext_grow _ _)))) (hV0.ext (by repeat (first | assumption | exact Ext.refl _ | refine Ext.trans ?_ (ext_grow _ _)))))) | (go_at_call 68; with_reducible exact Calls.quietE (N1.out _ (Ext.trans hE0 (by repeat (first | assumption | exact Ext.refl _ | refine Ext.trans ?_ (ext_grow _ _)))) (hV0.ext (by repeat (first | assumption | exact Ext.refl _ | refine Ext.trans ?_ (ext_grow _ _)))))) | (go_at_call 68; with_reducible exact Calls.quietE (N2.out _ (Ext.trans hE0 (by repeat (first | assumption | exact Ext.refl _ | refine Ext.trans ?_ (ext_grow _ _)))) (hV0.ext (by repeat (first | assumption | exact Ext.refl _ | refine Ext.trans ?_ (ext_grow _ _)))))) | (go_at_call 68; with_reducible exact Calls.quietE (N3.out _ (Ext.trans hE0 (by repeat (first | assumption | exact Ext.refl _ | refine Ext.trans ?_ (ext_grow _ _)))) (hV0.ext (by repeat (first | assumption | exact Ext.refl _ | refine Ext.trans ?_ (ext_grow _ _)))))))); exact wpQuiet_nil rfl
    refine Dm.wpE_take (i := 14) (listed' := (Dm.bits 20 32718)) (by kernel_rfl) (by kernel_rfl) rfl (fun _ _ _ _ h => h) ?_; apply Exists.intro; refine And.intro (fun x => ?_) ?_
    · go_big_quiet_step ((first | (go_at_call 68; with_reducible exact Calls.quietE (N0.out _ (Ext.trans hE0 (by repeat (first | assumption | exact Ext.refl _ | refine Ext.trans ?_ (ext_grow _ _)))) (hV0.ext (by repeat (first | assumption | exact Ext.refl _ | refine Ext.trans ?_ (ext_grow _ _)))))) | (go_at_call 68; with_reducible exact Calls.quietE (N1.out _ (Ext.trans hE0 (by repeat (first | assumption | exact Ext.refl _ | refine Ext.trans ?_ (ext_grow _ _)))) (hV0.ext (by repeat (first | assumption | exact Ext.refl _ | refine Ext.trans ?_ (ext_grow _ _)))))) | (go_at_call 68; with_reducible exact Calls.quietE (N2.out _ (Ext.trans hE0 (by repeat (first | assumption | exact Ext.refl _ | refine Ext.trans ?_ (ext_grow _ _)))) (hV0.ext (by repeat (first | assumption | exact Ext.refl _ | refine Ext.trans ?_ (ext_grow _ _)))))) | (go_at_call 68; with_reducible exact Calls.quietE (N3.out _ (Ext.trans hE0 (by repeat (first | assumption | exact Ext.refl _ | refine Ext.trans ?_ (ext_grow _ _)))) (hV0.ext (by repeat (first | assumption | exact Ext.refl _ | refine Ext.trans ?_ (ext_grow _ _)))))))); exact wpQuiet_nil rfl
    refine Dm.wpE_take (i := 15) (listed' := (Dm.bits 20 65486)) (by kernel_rfl) (by kernel_rfl) rfl (fun _ _ _ _ h => h) ?_; apply Exists.intro; refine And.intro (fun x => ?_) ?_
    · go_big_quiet_step ((first | (go_at_call 68; with_reducible exact Calls.quietE (N0.out _ (Ext.trans hE0 (by repeat (first | assumption | exact Ext.refl _ | refine Ext.trans ?_ (ext_grow _ _)))) (hV0.ext (by repeat (first | assumption | exact Ext.refl _ | refine Ext.trans ?_ (ext_grow _ _)))))) | (go_at_call 68; with_reducible exact Calls.quietE (N1.out _ (Ext.trans hE0 (by repeat (first | assumption | exact Ext.refl _ | refine Ext.trans ?_ (ext_grow _ _)))) (hV0.ext (by repeat (first | assumption | exact Ext.refl _ | refine Ext.trans ?_ (ext_grow _ _)))))) | (go_at_call 68; with_reducible exact Calls.quietE (N2.out _ (Ext.trans hE0 (by repeat (first | assumption | exact Ext.refl _ | refine Ext.trans ?_ (ext_grow _ _)))) (hV0.ext (by repeat (first | assumption | exact Ext.refl _ | refine Ext.trans ?_ (ext_grow _ _)))))) | (go_at_call 68; with_reducible exact Calls.quietE (N3.out _ (Ext.trans hE0 (by repeat (first | assumption | exact Ext.refl _ | refine Ext.trans ?_ (ext_grow _ _)))) (hV0.ext (by repeat (first | assumption | exact Ext.refl _ | refine Ext.trans ?_ (ext_grow _ _)))))))); exact wpQuiet_nil rfl
    refine Dm.wpE_take (i := 16) (listed' := (Dm.bits 20 131022)) (by kernel_rfl) (by kernel_rfl) rfl (fun _ _ _ _ h => h) ?_; apply Exists.intro; refine And.intro (fun x => ?_) ?_
    · go_big_quiet_step ((first | (go_at_call 68; with_reducible exact Calls.quietE (N0.out _ (Ext.trans hE0 (by repeat (first | assumption | exact Ext.refl _ | refine Ext.trans ?_ (ext_grow _ _)))) (hV0.ext (by repeat (first | assumption | exact Ext.refl _ | refine Ext.trans ?_ (ext_grow _ _)))))) | (go_at_call 68; with_reducible exact Calls.quietE (N1.out _ (Ext.trans hE0 (by repeat (first | assumption | exact Ext.refl _ | refine Ext.trans ?_ (ext_grow _ _)))) (hV0.ext (by repeat (first | assumption | exact Ext.refl _ | refine Ext.trans ?_ (ext_grow _ _)))))) | (go_at_call 68; with_reducible exact Calls.quietE (N2.out _ (Ext.trans hE0 (by repeat (first | assumption | exact Ext.refl _ | refine Ext.trans ?_ (ext_grow _ _)))) (hV0.ext (by repeat (first | assumption | exact Ext.refl _ | refine Ext.trans ?_ (ext_grow _ _)))))) | (go_at_call 68; with_reducible exact Calls.quietE (N3.out _ (Ext.trans hE0 (by repeat (first | assumption | exact Ext.refl _ | refine Ext.trans ?_ (ext_grow _ _)))) (hV0.ext (by repeat (first | assumption | exact Ext.refl _ | refine Ext.trans ?_ (ext_grow _ _)))))))); exact wpQuiet_nil rfl
    refine Dm.wpE_two (i := 0) (j := 18) (li := (Dm.bits 20 131023)) (lj := (Dm.bits 20 393166)) (by kernel_rfl) (by kernel_rfl) (by kernel_rfl) rfl rfl (Ext.refl W) (fun w1a hx1a => ?_) (fun w1a hx1a => ?_)
    ·
      have hX1a := Ext.trans (Ext.refl W) hx1a
      have hk4 : Strs (w1a.alloc (.cells #[.string ⟨#[97]⟩, .string ⟨#[97, 47, 98]⟩, .string ⟨#[98]⟩, .string ⟨#[206, 177, 206, 178, 47, 208, 180, 208, 190, 208, 188, 47, 99]⟩] 9)) (.slice (some ⟨w1a.heap.size, 0, none⟩) 4 4) paths4 := Sl.lit w1a 9 1 4 #[.string ⟨#[97]⟩, .string ⟨#[97, 47, 98]⟩, .string ⟨#[98]⟩, .string ⟨#[206, 177, 206, 178, 47, 208, 180, 208, 190, 208, 188, 47, 99]⟩] rfl (by simp [maxLen])
      go_wp2_with fail
      have hs1 := (Ext.refl w1a).alloc (.cells #[.string ⟨#[97]⟩, .string ⟨#[97, 47, 98]⟩, .string ⟨#[98]⟩, .string ⟨#[206, 177, 206, 178, 47, 208, 180, 208, 190, 208, 188, 47, 99]⟩] 9)
      generalize w1a.alloc (.cells #[.string ⟨#[97]⟩, .string ⟨#[97, 47, 98]⟩, .string ⟨#[98]⟩, .string ⟨#[206, 177, 206, 178, 47, 208, 180, 208, 190, 208, 188, 47, 99]⟩] 9) = w1b at *
      have hX1b := Ext.trans hX1a hs1
      try simp only [Exit.then, Act.put]
      refine Dm.wpE_take (i := 4) (listed' := (Dm.bits 20 131039)) (by kernel_rfl) (by kernel_rfl) rfl (fun _ _ _ _ h => h) ?_; apply Exists.intro; refine And.intro (fun x => ?_) ?_
      · go_big_quiet_step ((first | (go_at_call 68; with_reducible exact Calls.quietE (N0.out _ (Ext.trans hE0 (by repeat (first | assumption | exact Ext.refl _ | refine Ext.trans ?_ (ext_grow _ _)))) (hV0.ext (by repeat (first | assumption | exact Ext.refl _ | refine Ext.trans ?_ (ext_grow _ _)))))) | (go_at_call 68; with_reducible exact Calls.quietE (N1.out _ (Ext.trans hE0 (by repeat (first | assumption | exact Ext.refl _ | refine Ext.trans ?_ (ext_grow _ _)))) (hV0.ext (by repeat (first | assumption | exact Ext.refl _ | refine Ext.trans ?_ (ext_grow _ _)))))) | (go_at_call 68; with_reducible exact Calls.quietE (N2.out _ (Ext.trans hE0 (by repeat (first | assumption | exact Ext.refl _ | refine Ext.trans ?_ (ext_grow _ _)))) (hV0.ext (by repeat (first | assumption | exact Ext.refl _ | refine Ext.trans ?_ (ext_grow _ _)))))) | (go_at_call 68; with_reducible exact Calls.quietE (N3.out _ (Ext.trans hE0 (by repeat (first | assumption | exact Ext.refl _ | refine Ext.trans ?_ (ext_grow _ _)))) (hV0.ext (by repeat (first | assumption | exact Ext.refl _ | refine Ext.trans ?_ (ext_grow _ _)))))))); exact wpQuiet_nil rfl
      refine Dm.wpE_two (i := 5) (j := 18) (li := (Dm.bits 20 131071)) (lj := (Dm.bits 20 393183)) (by kernel_rfl) (by kernel_rfl) (by kernel_rfl) rfl rfl hX1b (fun w2a hx2a => ?_) (fun w2a hx2a => ?_)
      ·
        have hX2a := Ext.trans hX1b hx2a
        replace hk4 := hk4.ext hx2a
        obtain ⟨hkb, hkc⟩ := hk4.cells (k := j) (by simp [paths4]; omega)
        rw [← hs0.out, Nat.zero_add] at hkc
        go_wp2_with fail
        have hX2b := hX2a
        try simp only [Exit.then, Act.put]
        refine Dm.wpE_take (i := 17) (listed' := (Dm.bits 20 262143)) (by kernel_rfl) (by kernel_rfl) rfl (fun _ _ _ _ h => h) ?_; apply Exists.intro; refine And.intro (fun x => ?_) ?_
        · go_big_quiet_step ((first | (go_at_call 68; with_reducible exact Calls.quietE (N0.out _ (Ext.trans hE0 (by repeat (first | assumption | exact Ext.refl _ | refine Ext.trans ?_ (ext_grow _ _)))) (hV0.ext (by repeat (first | assumption | exact Ext.refl _ | refine Ext.trans ?_ (ext_grow _ _)))))) | (go_at_call 68; with_reducible exact Calls.quietE (N1.out _ (Ext.trans hE0 (by repeat (first | assumption | exact Ext.refl _ | refine Ext.trans ?_ (ext_grow _ _)))) (hV0.ext (by repeat (first | assumption | exact Ext.refl _ | refine Ext.trans ?_ (ext_grow _ _)))))) | (go_at_call 68; with_reducible exact Calls.quietE (N2.out _ (Ext.trans hE0 (by repeat (first | assumption | exact Ext.refl _ | refine Ext.trans ?_ (ext_grow _ _)))) (hV0.ext (by repeat (first | assumption | exact Ext.refl _ | refine Ext.trans ?_ (ext_grow _ _)))))) | (go_at_call 68; with_reducible exact Calls.quietE (N3.out _ (Ext.trans hE0 (by repeat (first | assumption | exact Ext.refl _ | refine Ext.trans ?_ (ext_grow _ _)))) (hV0.ext (by repeat (first | assumption | exact Ext.refl _ | refine Ext.trans ?_ (ext_grow _ _)))))))); exact wpQuiet_nil rfl
        refine Dm.wpE_one (i := 18) (listed' := (Dm.bits 20 524287)) (by kernel_rfl) (by kernel_rfl) rfl hX2b (fun w3a hx3a => ?_)
        have hX3a := Ext.trans hX2b hx3a
        replace hk4 := hk4.ext hx3a
        have hzz : CB w3a.heap.size [.string ⟨#[]⟩, .int .u64 0, .int .u64 0, .int .u64 0, .int .u64 0, .int .i64 0, .int .i64 0, .int .i64 0, .slice none 0 0] _ := CB.new w3a #[.string ⟨#[]⟩, .int .u64 0, .int .u64 0, .int .u64 0, .int .u64 0, .int .i64 0, .int .i64 0, .int .i64 0, .slice none 0 0] 27
        have hzl := (hX3a).size
        go_wp2_with fail
        have hs3 := (Ext.refl w3a).alloc (.cells #[.string ⟨#[]⟩, .int .u64 0, .int .u64 0, .int .u64 0, .int .u64 0, .int .i64 0, .int .i64 0, .int .i64 0, .slice none 0 0] 27)
        have hX3b := Ext.trans hX3a hs3
        generalize w3a.alloc (.cells #[.string ⟨#[]⟩, .int .u64 0, .int .u64 0, .int .u64 0, .int .u64 0, .int .i64 0, .int .i64 0, .int .i64 0, .slice none 0 0] 27) = w3b at *
        generalize w3a.heap.size = b2 at *
        replace hk4 := hk4.ext hs3
        try simp only [Exit.then, Act.put]
        refine Dm.wpE_one (i := 19) (listed' := (Dm.bits 20 1048575)) (by kernel_rfl) (by kernel_rfl) rfl hX3b (fun w4a hx4a => ?_)
        have hX4a := Ext.trans hX3b hx4a
        replace hk4 := hk4.ext hx4a
        replace hzz := hzz.ext hx4a
        obtain ⟨xl, x0, x1, x2, x3, x4, x5, x6, x7, x8, xf0, xf1, xf2, xf3, xf4, xf5, xf6, xf7, xf8⟩ := hzz.cells9
        have hY : CB b2 [.string s0, .int .u64 0, .int .u64 0, .int .u64 0, .int .u64 0, .int .i64 (1 + n1), .int .i64 n2, .int .i64 (1 + n3), .slice none 0 0] _ := hzz.put9 (.string s0) (.int .u64 0) (.int .u64 0) (.int .u64 0) (.int .u64 0) (.int .i64 (1 + n1)) (.int .i64 n2) (.int .i64 (1 + n3)) (.slice none 0 0)
        have hX4b : Ext W _ := Ext.cput9 hX4a (b := b2) (by omega) (.string s0) (.int .u64 0) (.int .u64 0) (.int .u64 0) (.int .u64 0) (.int .i64 (1 + n1)) (.int .i64 n2) (.int .i64 (1 + n3)) (.slice none 0 0)
        go_wp2_with fail
        clear xl x0 xf0 x1 xf1 x2 xf2 x3 xf3 x4 xf4 x5 xf5 x6 xf6 x7 xf7 x8 xf8
        clear hzz hk4
        generalize ((((((((w4a.setCell ⟨b2, 0, none⟩ (.string s0)).setCell ⟨b2, 1, none⟩ (.int .u64 0)).setCell ⟨b2, 2, none⟩ (.int .u64 0)).setCell ⟨b2, 3, none⟩ (.int .u64 0)).setCell ⟨b2, 4, none⟩ (.int .u64 0)).setCell ⟨b2, 5, none⟩ (.int .i64 (1 + n1))).setCell ⟨b2, 6, none⟩ (.int .i64 n2)).setCell ⟨b2, 7, none⟩ (.int .i64 (1 + n3))).setCell ⟨b2, 8, none⟩ (.slice none 0 0) = w4b at *
        try simp only [Exit.then, Act.put]
        refine Dm.wpE_done (by kernel_rfl) hX4b (fun w5a hx5a => ?_)
        have hX5a := Ext.trans hX4b hx5a
        replace hY := hY.ext hx5a
        go_wp2_with fail
        go_meet
        case rel => exact ⟨b2, rfl, (by have := hB0.lt; omega), hE0.trans hX5a, hV0.ext hX5a, hB0.ext hX5a, hY⟩
      ·
        have hX2a := Ext.trans hX1b hx2a
        replace hk4 := hk4.ext hx2a
        have hzz : CB w2a.heap.size [.string ⟨#[]⟩, .int .u64 0, .int .u64 0, .int .u64 0, .int .u64 0, .int .i64 0, .int .i64 0, .int .i64 0, .slice none 0 0] _ := CB.new w2a #[.string ⟨#[]⟩, .int .u64 0, .int .u64 0, .int .u64 0, .int .u64 0, .int .i64 0, .int .i64 0, .int .i64 0, .slice none 0 0] 27
        have hzl := (hX2a).size
        go_wp2_with fail
        have hs2 := (Ext.refl w2a).alloc (.cells #[.string ⟨#[]⟩, .int .u64 0, .int .u64 0, .int .u64 0, .int .u64 0, .int .i64 0, .int .i64 0, .int .i64 0, .slice none 0 0] 27)
        have hX2b := Ext.trans hX2a hs2
        generalize w2a.alloc (.cells #[.string ⟨#[]⟩, .int .u64 0, .int .u64 0, .int .u64 0, .int .u64 0, .int .i64 0, .int .i64 0, .int .i64 0, .slice none 0 0] 27) = w2b at *
        generalize w2a.heap.size = b2 at *
        replace hk4 := hk4.ext hs2
        try simp only [Exit.then, Act.put]
        refine Dm.wpE_one (i := 5) (listed' := (Dm.bits 20 393215)) (by kernel_rfl) (by kernel_rfl) rfl hX2b (fun w6a hx6a => ?_)
        have hX6a := Ext.trans hX2b hx6a
        replace hk4 := hk4.ext hx6a
        replace hzz := hzz.ext hx6a
        obtain ⟨hkb, hkc⟩ := hk4.cells (k := j) (by simp [paths4]; omega)
        rw [← hs0.out, Nat.zero_add] at hkc
        go_wp2_with fail
        have hX6b := hX6a
        try simp only [Exit.then, Act.put]
        refine Dm.wpE_take (i := 17) (listed' := (Dm.bits 20 524287)) (by kernel_rfl) (by kernel_rfl) rfl (fun _ _ _ _ h => h) ?_; apply Exists.intro; refine And.intro (fun x => ?_) ?_
        · go_big_quiet_step ((first | (go_at_call 68; with_reducible exact Calls.quietE (N0.out _ (Ext.trans hE0 (by repeat (first | assumption | exact Ext.refl _ | refine Ext.trans ?_ (ext_grow _ _)))) (hV0.ext (by repeat (first | assumption | exact Ext.refl _ | refine Ext.trans ?_ (ext_grow _ _)))))) | (go_at_call 68; with_reducible exact Calls.quietE (N1.out _ (Ext.trans hE0 (by repeat (first | assumption | exact Ext.refl _ | refine Ext.trans ?_ (ext_grow _ _)))) (hV0.ext (by repeat (first | assumption | exact Ext.refl _ | refine Ext.trans ?_ (ext_grow _ _)))))) | (go_at_call 68; with_reducible exact Calls.quietE (N2.out _ (Ext.trans hE0 (by repeat (first | assumption | exact Ext.refl _ | refine Ext.trans ?_ (ext_grow _ _)))) (hV0.ext (by repeat (first | assumption | exact Ext.refl _ | refine Ext.trans ?_ (ext_grow _ _)))))) | (go_at_call 68; with_reducible exact Calls.quietE (N3.out _ (Ext.trans hE0 (by repeat (first | assumption | exact Ext.refl _ | refine Ext.trans ?_ (ext_grow _ _)))) (hV0.ext (by repeat (first | assumption | exact Ext.refl _ | refine Ext.trans ?_ (ext_grow _ _)))))))); exact wpQuiet_nil rfl
        refine Dm.wpE_one (i := 19) (listed' := (Dm.bits 20 1048575)) (by kernel_rfl) (by kernel_rfl) rfl hX6b (fun w7a hx7a => ?_)
        have hX7a := Ext.trans hX6b hx7a
        replace hk4 := hk4.ext hx7a
        replace hzz := hzz.ext hx7a
        obtain ⟨xl, x0, x1, x2, x3, x4, x5, x6, x7, x8, xf0, xf1, xf2, xf3, xf4, xf5, xf6, xf7, xf8⟩ := hzz.cells9
        have hY : CB b2 [.string s0, .int .u64 0, .int .u64 0, .int .u64 0, .int .u64 0, .int .i64 (1 + n1), .int .i64 n2, .int .i64 (1 + n3), .slice none 0 0] _ := hzz.put9 (.string s0) (.int .u64 0) (.int .u64 0) (.int .u64 0) (.int .u64 0) (.int .i64 (1 + n1)) (.int .i64 n2) (.int .i64 (1 + n3)) (.slice none 0 0)
        have hX7b : Ext W _ := Ext.cput9 hX7a (b := b2) (by omega) (.string s0) (.int .u64 0) (.int .u64 0) (.int .u64 0) (.int .u64 0) (.int .i64 (1 + n1)) (.int .i64 n2) (.int .i64 (1 + n3)) (.slice none 0 0)
        go_wp2_with fail
        clear xl x0 xf0 x1 xf1 x2 xf2 x3 xf3 x4 xf4 x5 xf5 x6 xf6 x7 xf7 x8 xf8
        clear hzz hk4
        generalize ((((((((w7a.setCell ⟨b2, 0, none⟩ (.string s0)).setCell ⟨b2, 1, none⟩ (.int .u64 0)).setCell ⟨b2, 2, none⟩ (.int .u64 0)).setCell ⟨b2, 3, none⟩ (.int .u64 0)).setCell ⟨b2, 4, none⟩ (.int .u64 0)).setCell ⟨b2, 5, none⟩ (.int .i64 (1 + n1))).setCell ⟨b2, 6, none⟩ (.int .i64 n2)).setCell ⟨b2, 7, none⟩ (.int .i64 (1 + n3))).setCell ⟨b2, 8, none⟩ (.slice none 0 0) = w7b at *
        try simp only [Exit.then, Act.put]
        refine Dm.wpE_done (by kernel_rfl) hX7b (fun w8a hx8a => ?_)
        have hX8a := Ext.trans hX7b hx8a
        replace hY := hY.ext hx8a
        go_wp2_with fail
        go_meet
        case rel => exact ⟨b2, rfl, (by have := hB0.lt; omega), hE0.trans hX8a, hV0.ext hX8a, hB0.ext hX8a, hY⟩
    ·
      have hX1a := Ext.trans (Ext.refl W) hx1a
      have hzz : CB w1a.heap.size [.string ⟨#[]⟩, .int .u64 0, .int .u64 0, .int .u64 0, .int .u64 0, .int .i64 0, .int .i64 0, .int .i64 0, .slice none 0 0] _ := CB.new w1a #[.string ⟨#[]⟩, .int .u64 0, .int .u64 0, .int .u64 0, .int .u64 0, .int .i64 0, .int .i64 0, .int .i64 0, .slice none 0 0] 27
      have hzl := (hX1a).size
      go_wp2_with fail
      have hs1 := (Ext.refl w1a).alloc (.cells #[.string ⟨#[]⟩, .int .u64 0, .int .u64 0, .int .u64 0, .int .u64 0, .int .i64 0, .int .i64 0, .int .i64 0, .slice none 0 0] 27)
      have hX1b := Ext.trans hX1a hs1
      generalize w1a.alloc (.cells #[.string ⟨#[]⟩, .int .u64 0, .int .u64 0, .int .u64 0, .int .u64 0, .int .i64 0, .int .i64 0, .int .i64 0, .slice none 0 0] 27) = w1b at *
      generalize w1a.heap.size = b2 at *
      try simp only [Exit.then, Act.put]
      refine Dm.wpE_one (i := 0) (listed' := (Dm.bits 20 393167)) (by kernel_rfl) (by kernel_rfl) rfl hX1b (fun w9a hx9a => ?_)
      have hX9a := Ext.trans hX1b hx9a
      replace hzz := hzz.ext hx9a
      have hk4 : Strs (w9a.alloc (.cells #[.string ⟨#[97]⟩, .string ⟨#[97, 47, 98]⟩, .string ⟨#[98]⟩, .string ⟨#[206, 177, 206, 178, 47, 208, 180, 208, 190, 208, 188, 47, 99]⟩] 9)) (.slice (some ⟨w9a.heap.size, 0, none⟩) 4 4) paths4 := Sl.lit w9a 9 1 4 #[.string ⟨#[97]⟩, .string ⟨#[97, 47, 98]⟩, .string ⟨#[98]⟩, .string ⟨#[206, 177, 206, 178, 47, 208, 180, 208, 190, 208, 188, 47, 99]⟩] rfl (by simp [maxLen])
      go_wp2_with fail
      have hs9 := (Ext.refl w9a).alloc (.cells #[.string ⟨#[97]⟩, .string ⟨#[97, 47, 98]⟩, .string ⟨#[98]⟩, .string ⟨#[206, 177, 206, 178, 47, 208, 180, 208, 190, 208, 188, 47, 99]⟩] 9)
      generalize w9a.alloc (.cells #[.string ⟨#[97]⟩, .string ⟨#[97, 47, 98]⟩, .string ⟨#[98]⟩, .string ⟨#[206, 177, 206, 178, 47, 208, 180, 208, 190, 208, 188, 47, 99]⟩] 9) = w9b at *
      have hX9b := Ext.trans hX9a hs9
      replace hzz := hzz.ext hs9
      try simp only [Exit.then, Act.put]
      refine Dm.wpE_take (i := 4) (listed' := (Dm.bits 20 393183)) (by kernel_rfl) (by kernel_rfl) rfl (fun _ _ _ _ h => h) ?_; apply Exists.intro; refine And.intro (fun x => ?_) ?_
      · go_big_quiet_step ((first | (go_at_call 68; with_reducible exact Calls.quietE (N0.out _ (Ext.trans hE0 (by repeat (first | assumption | exact Ext.refl _ | refine Ext.trans ?_ (ext_grow _ _)))) (hV0.ext (by repeat (first | assumption | exact Ext.refl _ | refine Ext.trans ?_ (ext_grow _ _)))))) | (go_at_call 68; with_reducible exact Calls.quietE (N1.out _ (Ext.trans hE0 (by repeat (first | assumption | exact Ext.refl _ | refine Ext.trans ?_ (ext_grow _ _)))) (hV0.ext (by repeat (first | assumption | exact Ext.refl _ | refine Ext.trans ?_ (ext_grow _ _)))))) | (go_at_call 68; with_reducible exact Calls.quietE (N2.out _ (Ext.trans hE0 (by repeat (first | assumption | exact Ext.refl _ | refine Ext.trans ?_ (ext_grow _ _)))) (hV0.ext (by repeat (first | assumption | exact Ext.refl _ | refine Ext.trans ?_ (ext_grow _ _)))))) | (go_at_call 68; with_reducible exact Calls.quietE (N3.out _ (Ext.trans hE0 (by repeat (first | assumption | exact Ext.refl _ | refine Ext.trans ?_ (ext_grow _ _)))) (hV0.ext (by repeat (first | assumption | exact Ext.refl _ | refine Ext.trans ?_ (ext_grow _ _)))))))); exact wpQuiet_nil rfl
      refine Dm.wpE_one (i := 5) (listed' := (Dm.bits 20 393215)) (by kernel_rfl) (by kernel_rfl) rfl hX9b (fun w10a hx10a => ?_)
      have hX10a := Ext.trans hX9b hx10a
      replace hzz := hzz.ext hx10a
      replace hk4 := hk4.ext hx10a
      obtain ⟨hkb, hkc⟩ := hk4.cells (k := j) (by simp [paths4]; omega)
      rw [← hs0.out, Nat.zero_add] at hkc
      go_wp2_with fail
      have hX10b := hX10a
      try simp only [Exit.then, Act.put]
      refine Dm.wpE_take (i := 17) (listed' := (Dm.bits 20 524287)) (by kernel_rfl) (by kernel_rfl) rfl (fun _ _ _ _ h => h) ?_; apply Exists.intro; refine And.intro (fun x => ?_) ?_
      · go_big_quiet_step ((first | (go_at_call 68; with_reducible exact Calls.quietE (N0.out _ (Ext.trans hE0 (by repeat (first | assumption | exact Ext.refl _ | refine Ext.trans ?_ (ext_grow _ _)))) (hV0.ext (by repeat (first | assumption | exact Ext.refl _ | refine Ext.trans ?_ (ext_grow _ _)))))) | (go_at_call 68; with_reducible exact Calls.quietE (N1.out _ (Ext.trans hE0 (by repeat (first | assumption | exact Ext.refl _ | refine Ext.trans ?_ (ext_grow _ _)))) (hV0.ext (by repeat (first | assumption | exact Ext.refl _ | refine Ext.trans ?_ (ext_grow _ _)))))) | (go_at_call 68; with_reducible exact Calls.quietE (N2.out _ (Ext.trans hE0 (by repeat (first | assumption | exact Ext.refl _ | refine Ext.trans ?_ (ext_grow _ _)))) (hV0.ext (by repeat (first | assumption | exact Ext.refl _ | refine Ext.trans ?_ (ext_grow _ _)))))) | (go_at_call 68; with_reducible exact Calls.quietE (N3.out _ (Ext.trans hE0 (by repeat (first | assumption | exact Ext.refl _ | refine Ext.trans ?_ (ext_grow _ _)))) (hV0.ext (by repeat (first | assumption | exact Ext.refl _ | refine Ext.trans ?_ (ext_grow _ _)))))))); exact wpQuiet_nil rfl
      refine Dm.wpE_one (i := 19) (listed' := (Dm.bits 20 1048575)) (by kernel_rfl) (by kernel_rfl) rfl hX10b (fun w11a hx11a => ?_)
      have hX11a := Ext.trans hX10b hx11a
      replace hzz := hzz.ext hx11a
      replace hk4 := hk4.ext hx11a
      obtain ⟨xl, x0, x1, x2, x3, x4, x5, x6, x7, x8, xf0, xf1, xf2, xf3, xf4, xf5, xf6, xf7, xf8⟩ := hzz.cells9
      have hY : CB b2 [.string s0, .int .u64 0, .int .u64 0, .int .u64 0, .int .u64 0, .int .i64 (1 + n1), .int .i64 n2, .int .i64 (1 + n3), .slice none 0 0] _ := hzz.put9 (.string s0) (.int .u64 0) (.int .u64 0) (.int .u64 0) (.int .u64 0) (.int .i64 (1 + n1)) (.int .i64 n2) (.int .i64 (1 + n3)) (.slice none 0 0)
      have hX11b : Ext W _ := Ext.cput9 hX11a (b := b2) (by omega) (.string s0) (.int .u64 0) (.int .u64 0) (.int .u64 0) (.int .u64 0) (.int .i64 (1 + n1)) (.int .i64 n2) (.int .i64 (1 + n3)) (.slice none 0 0)
      go_wp2_with fail
      clear xl x0 xf0 x1 xf1 x2 xf2 x3 xf3 x4 xf4 x5 xf5 x6 xf6 x7 xf7 x8 xf8
      clear hzz hk4
      generalize ((((((((w11a.setCell ⟨b2, 0, none⟩ (.string s0)).setCell ⟨b2, 1, none⟩ (.int .u64 0)).setCell ⟨b2, 2, none⟩ (.int .u64 0)).setCell ⟨b2, 3, none⟩ (.int .u64 0)).setCell ⟨b2, 4, none⟩ (.int .u64 0)).setCell ⟨b2, 5, none⟩ (.int .i64 (1 + n1))).setCell ⟨b2, 6, none⟩ (.int .i64 n2)).setCell ⟨b2, 7, none⟩ (.int .i64 (1 + n3))).setCell ⟨b2, 8, none⟩ (.slice none 0 0) = w11b at *
      try simp only [Exit.then, Act.put]
      refine Dm.wpE_done (by kernel_rfl) hX11b (fun w12a hx12a => ?_)
      have hX12a := Ext.trans hX11b hx12a
      replace hY := hY.ext hx12a
      go_wp2_with fail
      go_meet
      case rel => exact ⟨b2, rfl, (by have := hB0.lt; omega), hE0.trans hX12a, hV0.ext hX12a, hB0.ext hX12a, hY⟩
  case rest =>
    obtain ⟨b2, rfl, hb2, hE1, hV1, hB1, hY⟩ := hcut
    clear hV0 hB0 hE0 N0 N1 N2 N3 hW0 v0 vl
    go_wp2
    try simp only [hjq, hn1, hn2, hn3]
    clear hjq hn1 hn2 hn3
    go_loopw [5] (fun i wr => ∃ k : Nat, k ≤ 4 ∧ i = .int .i64 k ∧ Ext w wr ∧ CB w.heap.size [.slice q zs.length cap] wr ∧ CB (w.heap.size + 1) [.string ⟨#[]⟩, .int .u64 0, .int .u64 0, .int .u64 0, .int .u64 0, .int .i64 0, .int .i64 0, .int .i64 0, .slice none 0 0] wr ∧ CB b2 [.string s0, .int .u64 (partD D k 0 : Nat), .int .u64 (partD D k 1 : Nat), .int .u64 (partD D k 2 : Nat), .int .u64 (partD D k 3 : Nat), .int .i64 (1 + n1), .int .i64 n2, .int .i64 (1 + n3), .slice none 0 0] wr) (fun i _ => 4 - (intOf i).toNat)
    case atStart => exact ⟨0, by omega, rfl, hE1, hV1, hB1, hY⟩
    case round =>
      obtain ⟨k, hk, rfl, hE, hV, hB, hY2⟩ := hrel
      clear hE1 hV1 hB1 hY
      by_cases hlt : k < 4
      · have Na := N.out (4 + k)
        have Nb := N.out (8 + k)
        have e4 : ((4 + k : Nat) : Int) = 4 + (k : Int) := by omega
        have e8 : ((8 + k : Nat) : Int) = 8 + (k : Int) := by omega
        rw [e4] at Na
        rw [e8] at Nb
        clear e4 e8
        have hDk := hD.out k hlt
        have hsk := hsh.out k
        have ma := hle.out (4 + k)
        have mb := hle.out (8 + k)
        generalize byN zs (4 + k) = a at *
        generalize byN zs (8 + k) = b at *
        obtain ⟨t, ht, htq⟩ : ∃ t : Nat, t < 50 ∧ b % 50 = t := ⟨b % 50, by omega, rfl⟩
        have htb : (b : Int) % 50 = (t : Int) := by omega
        rw [htq] at hDk hsk
        clear htq
        obtain ⟨X, hX⟩ : ∃ X : Nat, a * 2 ^ t = X := ⟨_, rfl⟩
        rw [hX] at hDk hsk
        have hw : IntKind.u64.wrap ((a : Int) * 2 ^ t) = (X : Int) := by
          have e : (a : Int) * 2 ^ t = (X : Int) := by rw [← hX, Int.natCast_mul, Int.natCast_pow]; rfl
          rw [e]
          simp [IntKind.wrap, IntKind.bits, IntKind.signed]
          omega
        replace hX := Lib.hid hX
        have hst := cells_step s0 D (1 + n1) n2 (1 + n3) (.slice none 0 0) hlt
        replace Na := Lib.hid Na
        replace Nb := Lib.hid Nb
        replace hDk := Lib.hid hDk
        replace hst := Lib.hid hst
        have v0 := hV.cell 0 (by simp)
        have vl := hV.lt
        change World.cell? _ _ = some (.slice q zs.length cap) at v0
        go_wp2_with fail
        refine (Na.out _ hE hV).mono ?_; rintro e wa ⟨rfl, ha⟩
        clear v0 vl
        replace hE := hE.trans ha
        replace hV := hV.ext ha
        replace hB := hB.ext ha
        replace hY2 := hY2.ext ha
        clear ha
        have v0 := hV.cell 0 (by simp)
        have vl := hV.lt
        change World.cell? _ _ = some (.slice q zs.length cap) at v0
        go_wp2_with fail
        refine (Nb.out _ hE hV).mono ?_; rintro e wb ⟨rfl, hb'⟩
        clear v0 vl
        replace hE := hE.trans hb'
        replace hV := hV.ext hb'
        replace hB := hB.ext hb'
        replace hY2 := hY2.ext hb'
        clear hb'
        have hY3 := hY2.set (1 + k) (.int .u64 (D k : Nat)) (by simp; omega)
        rw [hst.out, hDk.out] at hY3
        have hE3 := hE.setCell (p := ⟨b2, 1 + k, none⟩) (show w.heap.size ≤ b2 by omega) (.int .u64 (X : Nat))
        have hV3 := hV.far (i := 1 + k) (show b2 ≠ w.heap.size by omega) (.int .u64 (X : Nat))
        have hB3 := hB.far (i := 1 + k) (show b2 ≠ w.heap.size + 1 by omega) (.int .u64 (X : Nat))
        obtain ⟨xl, x0, x1, x2, x3, x4, x5, x6, x7, x8, xf0, xf1, xf2, xf3, xf4, xf5, xf6, xf7, xf8⟩ := hY2.cells9
        obtain ⟨uk, huk⟩ : ∃ u, wb.cell? ⟨b2, 1 + k, none⟩ = some u := ⟨_, (hY2.cell (1 + k) (by simp; omega)).trans (List.getElem?_eq_getElem (by simp; omega))⟩
        have hfk : wb.frozen? ⟨b2, 1 + k, none⟩ = false := hY2.free (1 + k) (by simp; omega)
        go_wp2
        go_roundw
        case rel => exact ⟨k + 1, by omega, by go_num, hE3, hV3, hB3, hY3⟩
        case measure => simp [intOf]; omega
      · obtain rfl : k = 4 := by omega
        have hY4 : CB b2 [.string s0, .int .u64 (D 0 : Nat), .int .u64 (D 1 : Nat), .int .u64 (D 2 : Nat), .int .u64 (D 3 : Nat), .int .i64 (1 + n1), .int .i64 n2, .int .i64 (1 + n3), .slice none 0 0] wr := hY2
        clear hY2 hlt hk
        have v0 := hV.cell 0 (by simp)
        have vl := hV.lt
        change World.cell? _ _ = some (.slice q zs.length cap) at v0
        go_wp2_with fail
        refine (N12.out _ hE hV).mono ?_; rintro e w3 ⟨rfl, h3⟩
        clear v0 vl
        replace hE := hE.trans h3
        replace hV := hV.ext h3
        replace hB := hB.ext h3
        replace hY4 := hY4.ext h3
        clear h3
        by_cases h12 : z12 % 3 = 0
        · have h12i : (z12 : Int) % 3 = 0 := by omega
          obtain rfl : T = [] := by rw [hT.out, if_pos h12]
          clear h12
          obtain ⟨xl, x0, x1, x2, x3, x4, x5, x6, x7, x8, xf0, xf1, xf2, xf3, xf4, xf5, xf6, xf7, xf8⟩ := hY4.cells9
          obtain ⟨rl, r0, r1, r2, r3, r4, r5, r6, r7, r8, rf0, rf1, rf2, rf3, rf4, rf5, rf6, rf7, rf8⟩ := hB.cells9
          go_wp2
          clear xl x0 xf0 x1 xf1 x2 xf2 x3 xf3 x4 xf4 x5 xf5 x6 xf6 x7 xf7 x8 xf8
          clear rl r0 rf0 r1 rf1 r2 rf2 r3 rf3 r4 rf4 r5 rf5 r6 rf6 r7 rf7 r8 rf8
          have hz := hB.put9 (.string s0) (.int .u64 (D 0 : Nat)) (.int .u64 (D 1 : Nat)) (.int .u64 (D 2 : Nat)) (.int .u64 (D 3 : Nat)) (.int .i64 (1 + n1)) (.int .i64 n2) (.int .i64 (1 + n3)) (.slice none 0 0)
          obtain ⟨_, k0, k1, k2, k3, k4, k5, k6, k7, k8, _, _, _, _, _, _, _, _, _⟩ := hz.cells9
          refine bodyPost_ret (v := .agg #[.string s0, .int .u64 (D 0 : Nat), .int .u64 (D 1 : Nat), .int .u64 (D 2 : Nat), .int .u64 (D 3 : Nat), .int .i64 (1 + n1), .int .i64 n2, .int .i64 (1 + n3), .slice none 0 0]) (by simp [results, Tryz.results26, go_sem, k0, k1, k2, k3, k4, k5, k6, k7, k8]) rfl ?_
          exact ⟨.slice none 0 0, [], rfl, Terms.nil _, rfl, Ext.cput9 hE (b := w.heap.size + 1) (by omega) _ _ _ _ _ _ _ _ _⟩
        · have h12i : ¬ ((z12 : Int) % 3 = 0) := by omega
          have h12p : 0 < (z12 : Int) % 3 := by omega
          have hT1 : T = [(zoneB, z12 % 2 == 1, vals3 (z13 % 3))] := by rw [hT.out, if_neg h12]
          clear h12
          have v0 := hV.cell 0 (by simp)
          have vl := hV.lt
          change World.cell? _ _ = some (.slice q zs.length cap) at v0
          go_wp2_with fail
          refine (N12.out _ hE hV).mono ?_; rintro e w4 ⟨rfl, h4⟩
          clear v0 vl
          replace hE := hE.trans h4
          replace hV := hV.ext h4
          replace hB := hB.ext h4
          replace hY4 := hY4.ext h4
          clear h4
          have hno : ((z12 : Int) % 2 == 1) = (z12 % 2 == 1) := by rw [Bool.eq_iff_iff, beq_iff_eq, beq_iff_eq]; omega
          obtain ⟨no, hnoe⟩ : ∃ no, no = (z12 % 2 == 1) := ⟨_, rfl⟩
          rw [← hnoe] at hno hT1
          clear hnoe
          obtain ⟨j3, hj3, hjj⟩ : ∃ j3 : Nat, j3 < 3 ∧ z13 % 3 = j3 := ⟨z13 % 3, by omega, rfl⟩
          have hji : (z13 : Int) % 3 = (j3 : Int) := by omega
          rw [hjj] at hT1
          replace hT1 := Lib.hid hT1
          clear hjj
          have ea := (Ext.refl w4).alloc (.cells #[.string ⟨#[97]⟩] 9)
          have sa := strs_lit1 w4 9 ⟨#[97]⟩
          have sb := strs_lit2 (w4.alloc (.cells #[.string ⟨#[97]⟩] 9)) 9 ⟨#[97]⟩ ⟨#[98]⟩
          have hbl := hY4.lt
          rw [World.size_alloc] at sb
          have S1 : Value := .slice none 0 0
          have hTb : CB (w4.heap.size + 2) [.slice none 0 0, .slice (some ⟨w4.heap.size, 0, none⟩) 1 1, .slice (some ⟨w4.heap.size + 1, 0, none⟩) 2 2] (((w4.alloc (.cells #[.string ⟨#[97]⟩] 9)).alloc (.cells #[.string ⟨#[97]⟩, .string ⟨#[98]⟩] 9)).alloc (.cells #[.slice none 0 0, .slice (some ⟨w4.heap.size, 0, none⟩) 1 1, .slice (some ⟨w4.heap.size + 1, 0, none⟩) 2 2] 28)) := by
            have h := CB.new ((w4.alloc (.cells #[.string ⟨#[97]⟩] 9)).alloc (.cells #[.string ⟨#[97]⟩, .string ⟨#[98]⟩] 9)) #[.slice none 0 0, .slice (some ⟨w4.heap.size, 0, none⟩) 1 1, .slice (some ⟨w4.heap.size + 1, 0, none⟩) 2 2] 28
            rw [World.size_alloc, World.size_alloc] at h
            exact h
          have eb : Ext w4 (((w4.alloc (.cells #[.string ⟨#[97]⟩] 9)).alloc (.cells #[.string ⟨#[97]⟩, .string ⟨#[98]⟩] 9)).alloc (.cells #[.slice none 0 0, .slice (some ⟨w4.heap.size, 0, none⟩) 1 1, .slice (some ⟨w4.heap.size + 1, 0, none⟩) 2 2] 28)) := (ea.alloc _).alloc _
          replace sa := sa.ext (((Ext.refl _).alloc (.cells #[.string ⟨#[97]⟩, .string ⟨#[98]⟩] 9)).alloc (.cells #[.slice none 0 0, .slice (some ⟨w4.heap.size, 0, none⟩) 1 1, .slice (some ⟨w4.heap.size + 1, 0, none⟩) 2 2] 28))
          replace sb := sb.ext ((Ext.refl _).alloc (.cells #[.slice none 0 0, .slice (some ⟨w4.heap.size, 0, none⟩) 1 1, .slice (some ⟨w4.heap.size + 1, 0, none⟩) 2 2] 28))
          replace hE := hE.trans eb
          replace hV := hV.ext eb
          replace hB := hB.ext eb
          replace hY4 := hY4.ext eb
          clear ea eb S1
          have v0 := hV.cell 0 (by simp)
          have vl := hV.lt
          change World.cell? _ _ = some (.slice q zs.length cap) at v0
          go_wp2_with fail
          clear v0 vl
          generalize hw5 : (((w4.alloc (.cells #[.string ⟨#[97]⟩] 9)).alloc (.cells #[.string ⟨#[97]⟩, .string ⟨#[98]⟩] 9)).alloc (.cells #[.slice none 0 0, .slice (some ⟨w4.heap.size, 0, none⟩) 1 1, .slice (some ⟨w4.heap.size + 1, 0, none⟩) 2 2] 28)) = w5 at *
          refine (N13.out _ hE hV).mono ?_; rintro e w6 ⟨rfl, h6⟩
          replace hE := hE.trans h6
          replace hV := hV.ext h6
          replace hB := hB.ext h6
          replace hY4 := hY4.ext h6
          replace hTb := hTb.ext h6
          replace sa := sa.ext h6
          replace sb := sb.ext h6
          clear h6 hw5
          obtain ⟨tl, t0, t1, t2, _, _, _⟩ := hTb.cells3
          obtain rfl | rfl | rfl : j3 = 0 ∨ j3 = 1 ∨ j3 = 2 := by omega
          · have hx7 := terms_lit1 w6 115 ⟨#[122, 111, 110, 101]⟩ no (.slice none 0 0) [] (Sl.nil _ 1)
            have e7 := (Ext.refl w6).alloc (.cells #[.string ⟨#[122, 111, 110, 101]⟩, .bool no, .slice none 0 0] 115)
            have hE7 := hE.trans e7
            have hB7 := hB.ext e7
            have hY7 := hY4.ext e7
            have hbl6 := hY4.lt
            have hb16 := hB.lt
            have ho : OwnT (b2 + 1) (.slice (some ⟨w6.heap.size, 0, none⟩) 1 1) [((⟨#[122, 111, 110, 101]⟩ : ByteArray), no, (.slice none 0 0 : Value), ([] : List ByteArray))] := by
              refine ⟨fun c hc => ?_, fun x hx c hc => ?_⟩
              · have : w6.heap.size = c := Option.some.inj hc
                omega
              · rw [List.mem_singleton] at hx
                subst hx
                cases hc
            have hE8 := hE7.setCell (p := ⟨b2, 8, none⟩) (show w.heap.size ≤ b2 by omega) (.slice (some ⟨w6.heap.size, 0, none⟩) 1 1)
            have hB8 := hB7.far (i := 8) (show b2 ≠ w.heap.size + 1 by omega) (.slice (some ⟨w6.heap.size, 0, none⟩) 1 1)
            have hY8 : CB b2 [.string s0, .int .u64 (D 0 : Nat), .int .u64 (D 1 : Nat), .int .u64 (D 2 : Nat), .int .u64 (D 3 : Nat), .int .i64 (1 + n1), .int .i64 n2, .int .i64 (1 + n3), .slice (some ⟨w6.heap.size, 0, none⟩) 1 1] _ := hY7.set 8 (.slice (some ⟨w6.heap.size, 0, none⟩) 1 1) (by simp)
            have hx8 := hx7.set ho (b := b2) (i := 8) (by omega) (.slice (some ⟨w6.heap.size, 0, none⟩) 1 1)
            have x8 := hY4.cell 8 (by simp)
            have xf8 := hY4.free 8 (by simp)
            have xl := hY4.lt
            change w6.cell? ⟨b2, 8, none⟩ = some (.slice none 0 0) at x8
            go_upto_region 9 with fail
            clear x8 xf8 xl
            rw [World.setCell_alloc_past _ _ _ _ hbl6] at hE8 hB8 hY8 hx8
            generalize hw8 : (w6.setCell ⟨b2, 8, none⟩ (.slice (some ⟨w6.heap.size, 0, none⟩) 1 1)).alloc (.cells #[.string ⟨#[122, 111, 110, 101]⟩, .bool no, .slice none 0 0] 115) = w8 at *
            obtain ⟨xl, x0, x1, x2, x3, x4, x5, x6, x7, x8, xf0, xf1, xf2, xf3, xf4, xf5, xf6, xf7, xf8⟩ := hY8.cells9
            obtain ⟨rl, r0, r1, r2, r3, r4, r5, r6, r7, r8, rf0, rf1, rf2, rf3, rf4, rf5, rf6, rf7, rf8⟩ := hB8.cells9
            go_wp2
            clear xl x0 xf0 x1 xf1 x2 xf2 x3 xf3 x4 xf4 x5 xf5 x6 xf6 x7 xf7 x8 xf8
            clear rl r0 rf0 r1 rf1 r2 rf2 r3 rf3 r4 rf4 r5 rf5 r6 rf6 r7 rf7 r8 rf8
            have hz := hB8.put9 (.string s0) (.int .u64 (D 0 : Nat)) (.int .u64 (D 1 : Nat)) (.int .u64 (D 2 : Nat)) (.int .u64 (D 3 : Nat)) (.int .i64 (1 + n1)) (.int .i64 n2) (.int .i64 (1 + n3)) (.slice (some ⟨w6.heap.size, 0, none⟩) 1 1)
            obtain ⟨_, k0, k1, k2, k3, k4, k5, k6, k7, k8, _, _, _, _, _, _, _, _, _⟩ := hz.cells9
            refine bodyPost_ret (v := .agg #[.string s0, .int .u64 (D 0 : Nat), .int .u64 (D 1 : Nat), .int .u64 (D 2 : Nat), .int .u64 (D 3 : Nat), .int .i64 (1 + n1), .int .i64 n2, .int .i64 (1 + n3), .slice (some ⟨w6.heap.size, 0, none⟩) 1 1]) (by simp [results, Tryz.results26, go_sem, k0, k1, k2, k3, k4, k5, k6, k7, k8]) rfl ?_
            refine ⟨.slice (some ⟨w6.heap.size, 0, none⟩) 1 1, [((⟨#[122, 111, 110, 101]⟩ : ByteArray), no, (.slice none 0 0 : Value), ([] : List ByteArray))], rfl, ?_, by rw [hT1.out]; rfl, Ext.cput9 hE8 (b := w.heap.size + 1) (by omega) _ _ _ _ _ _ _ _ _⟩
            have hlo : w.heap.size + 1 < b2 + 1 := by omega
            exact ((((((((hx8.set ho hlo _).set ho hlo _).set ho hlo _).set ho hlo _).set ho hlo _).set ho hlo _).set ho hlo _).set ho hlo _).set ho hlo _
          · have hx7 := terms_lit1 w6 115 ⟨#[122, 111, 110, 101]⟩ no (.slice (some ⟨w4.heap.size, 0, none⟩) 1 1) [⟨#[97]⟩] (sa)
            have e7 := (Ext.refl w6).alloc (.cells #[.string ⟨#[122, 111, 110, 101]⟩, .bool no, .slice (some ⟨w4.heap.size, 0, none⟩) 1 1] 115)
            have hE7 := hE.trans e7
            have hB7 := hB.ext e7
            have hY7 := hY4.ext e7
            have hbl6 := hY4.lt
            have hb16 := hB.lt
            have ho : OwnT (b2 + 1) (.slice (some ⟨w6.heap.size, 0, none⟩) 1 1) [((⟨#[122, 111, 110, 101]⟩ : ByteArray), no, (.slice (some ⟨w4.heap.size, 0, none⟩) 1 1 : Value), ([⟨#[97]⟩] : List ByteArray))] := by
              refine ⟨fun c hc => ?_, fun x hx c hc => ?_⟩
              · have : w6.heap.size = c := Option.some.inj hc
                omega
              · rw [List.mem_singleton] at hx
                subst hx
                have : w4.heap.size = c := Option.some.inj hc
                omega
            have hE8 := hE7.setCell (p := ⟨b2, 8, none⟩) (show w.heap.size ≤ b2 by omega) (.slice (some ⟨w6.heap.size, 0, none⟩) 1 1)
            have hB8 := hB7.far (i := 8) (show b2 ≠ w.heap.size + 1 by omega) (.slice (some ⟨w6.heap.size, 0, none⟩) 1 1)
            have hY8 : CB b2 [.string s0, .int .u64 (D 0 : Nat), .int .u64 (D 1 : Nat), .int .u64 (D 2 : Nat), .int .u64 (D 3 : Nat), .int .i64 (1 + n1), .int .i64 n2, .int .i64 (1 + n3), .slice (some ⟨w6.heap.size, 0, none⟩) 1 1] _ := hY7.set 8 (.slice (some ⟨w6.heap.size, 0, none⟩) 1 1) (by simp)
            have hx8 := hx7.set ho (b := b2) (i := 8) (by omega) (.slice (some ⟨w6.heap.size, 0, none⟩) 1 1)
            have x8 := hY4.cell 8 (by simp)
            have xf8 := hY4.free 8 (by simp)
            have xl := hY4.lt
            change w6.cell? ⟨b2, 8, none⟩ = some (.slice none 0 0) at x8
            go_upto_region 9 with fail
            clear x8 xf8 xl
            rw [World.setCell_alloc_past _ _ _ _ hbl6] at hE8 hB8 hY8 hx8
            generalize hw8 : (w6.setCell ⟨b2, 8, none⟩ (.slice (some ⟨w6.heap.size, 0, none⟩) 1 1)).alloc (.cells #[.string ⟨#[122, 111, 110, 101]⟩, .bool no, .slice (some ⟨w4.heap.size, 0, none⟩) 1 1] 115) = w8 at *
            obtain ⟨xl, x0, x1, x2, x3, x4, x5, x6, x7, x8, xf0, xf1, xf2, xf3, xf4, xf5, xf6, xf7, xf8⟩ := hY8.cells9
            obtain ⟨rl, r0, r1, r2, r3, r4, r5, r6, r7, r8, rf0, rf1, rf2, rf3, rf4, rf5, rf6, rf7, rf8⟩ := hB8.cells9
            go_wp2
            clear xl x0 xf0 x1 xf1 x2 xf2 x3 xf3 x4 xf4 x5 xf5 x6 xf6 x7 xf7 x8 xf8
            clear rl r0 rf0 r1 rf1 r2 rf2 r3 rf3 r4 rf4 r5 rf5 r6 rf6 r7 rf7 r8 rf8
            have hz := hB8.put9 (.string s0) (.int .u64 (D 0 : Nat)) (.int .u64 (D 1 : Nat)) (.int .u64 (D 2 : Nat)) (.int .u64 (D 3 : Nat)) (.int .i64 (1 + n1)) (.int .i64 n2) (.int .i64 (1 + n3)) (.slice (some ⟨w6.heap.size, 0, none⟩) 1 1)
            obtain ⟨_, k0, k1, k2, k3, k4, k5, k6, k7, k8, _, _, _, _, _, _, _, _, _⟩ := hz.cells9
            refine bodyPost_ret (v := .agg #[.string s0, .int .u64 (D 0 : Nat), .int .u64 (D 1 : Nat), .int .u64 (D 2 : Nat), .int .u64 (D 3 : Nat), .int .i64 (1 + n1), .int .i64 n2, .int .i64 (1 + n3), .slice (some ⟨w6.heap.size, 0, none⟩) 1 1]) (by simp [results, Tryz.results26, go_sem, k0, k1, k2, k3, k4, k5, k6, k7, k8]) rfl ?_
            refine ⟨.slice (some ⟨w6.heap.size, 0, none⟩) 1 1, [((⟨#[122, 111, 110, 101]⟩ : ByteArray), no, (.slice (some ⟨w4.heap.size, 0, none⟩) 1 1 : Value), ([⟨#[97]⟩] : List ByteArray))], rfl, ?_, by rw [hT1.out]; rfl, Ext.cput9 hE8 (b := w.heap.size + 1) (by omega) _ _ _ _ _ _ _ _ _⟩
            have hlo : w.heap.size + 1 < b2 + 1 := by omega
            exact ((((((((hx8.set ho hlo _).set ho hlo _).set ho hlo _).set ho hlo _).set ho hlo _).set ho hlo _).set ho hlo _).set ho hlo _).set ho hlo _
          · have hx7 := terms_lit1 w6 115 ⟨#[122, 111, 110, 101]⟩ no (.slice (some ⟨w4.heap.size + 1, 0, none⟩) 2 2) [⟨#[97]⟩, ⟨#[98]⟩] (sb)
            have e7 := (Ext.refl w6).alloc (.cells #[.string ⟨#[122, 111, 110, 101]⟩, .bool no, .slice (some ⟨w4.heap.size + 1, 0, none⟩) 2 2] 115)
            have hE7 := hE.trans e7
            have hB7 := hB.ext e7
            have hY7 := hY4.ext e7
            have hbl6 := hY4.lt
            have hb16 := hB.lt
            have ho : OwnT (b2 + 1) (.slice (some ⟨w6.heap.size, 0, none⟩) 1 1) [((⟨#[122, 111, 110, 101]⟩ : ByteArray), no, (.slice (some ⟨w4.heap.size + 1, 0, none⟩) 2 2 : Value), ([⟨#[97]⟩, ⟨#[98]⟩] : List ByteArray))] := by
              refine ⟨fun c hc => ?_, fun x hx c hc => ?_⟩
              · have : w6.heap.size = c := Option.some.inj hc
                omega
              · rw [List.mem_singleton] at hx
                subst hx
                have : w4.heap.size + 1 = c := Option.some.inj hc
                omega
            have hE8 := hE7.setCell (p := ⟨b2, 8, none⟩) (show w.heap.size ≤ b2 by omega) (.slice (some ⟨w6.heap.size, 0, none⟩) 1 1)
            have hB8 := hB7.far (i := 8) (show b2 ≠ w.heap.size + 1 by omega) (.slice (some ⟨w6.heap.size, 0, none⟩) 1 1)
            have hY8 : CB b2 [.string s0, .int .u64 (D 0 : Nat), .int .u64 (D 1 : Nat), .int .u64 (D 2 : Nat), .int .u64 (D 3 : Nat), .int .i64 (1 + n1), .int .i64 n2, .int .i64 (1 + n3), .slice (some ⟨w6.heap.size, 0, none⟩) 1 1] _ := hY7.set 8 (.slice (some ⟨w6.heap.size, 0, none⟩) 1 1) (by simp)
            have hx8 := hx7.set ho (b := b2) (i := 8) (by omega) (.slice (some ⟨w6.heap.size, 0, none⟩) 1 1)
            have x8 := hY4.cell 8 (by simp)
            have xf8 := hY4.free 8 (by simp)
            have xl := hY4.lt
            change w6.cell? ⟨b2, 8, none⟩ = some (.slice none 0 0) at x8
            go_upto_region 9 with fail
            clear x8 xf8 xl
            rw [World.setCell_alloc_past _ _ _ _ hbl6] at hE8 hB8 hY8 hx8
            generalize hw8 : (w6.setCell ⟨b2, 8, none⟩ (.slice (some ⟨w6.heap.size, 0, none⟩) 1 1)).alloc (.cells #[.string ⟨#[122, 111, 110, 101]⟩, .bool no, .slice (some ⟨w4.heap.size + 1, 0, none⟩) 2 2] 115) = w8 at *
            obtain ⟨xl, x0, x1, x2, x3, x4, x5, x6, x7, x8, xf0, xf1, xf2, xf3, xf4, xf5, xf6, xf7, xf8⟩ := hY8.cells9
            obtain ⟨rl, r0, r1, r2, r3, r4, r5, r6, r7, r8, rf0, rf1, rf2, rf3, rf4, rf5, rf6, rf7, rf8⟩ := hB8.cells9
            go_wp2
            clear xl x0 xf0 x1 xf1 x2 xf2 x3 xf3 x4 xf4 x5 xf5 x6 xf6 x7 xf7 x8 xf8
            clear rl r0 rf0 r1 rf1 r2 rf2 r3 rf3 r4 rf4 r5 rf5 r6 rf6 r7 rf7 r8 rf8
            have hz := hB8.put9 (.string s0) (.int .u64 (D 0 : Nat)) (.int .u64 (D 1 : Nat)) (.int .u64 (D 2 : Nat)) (.int .u64 (D 3 : Nat)) (.int .i64 (1 + n1)) (.int .i64 n2) (.int .i64 (1 + n3)) (.slice (some ⟨w6.heap.size, 0, none⟩) 1 1)
            obtain ⟨_, k0, k1, k2, k3, k4, k5, k6, k7, k8, _, _, _, _, _, _, _, _, _⟩ := hz.cells9
            refine bodyPost_ret (v := .agg #[.string s0, .int .u64 (D 0 : Nat), .int .u64 (D 1 : Nat), .int .u64 (D 2 : Nat), .int .u64 (D 3 : Nat), .int .i64 (1 + n1), .int .i64 n2, .int .i64 (1 + n3), .slice (some ⟨w6.heap.size, 0, none⟩) 1 1]) (by simp [results, Tryz.results26, go_sem, k0, k1, k2, k3, k4, k5, k6, k7, k8]) rfl ?_
            refine ⟨.slice (some ⟨w6.heap.size, 0, none⟩) 1 1, [((⟨#[122, 111, 110, 101]⟩ : ByteArray), no, (.slice (some ⟨w4.heap.size + 1, 0, none⟩) 2 2 : Value), ([⟨#[97]⟩, ⟨#[98]⟩] : List ByteArray))], rfl, ?_, by rw [hT1.out]; rfl, Ext.cput9 hE8 (b := w.heap.size + 1) (by omega) _ _ _ _ _ _ _ _ _⟩
            have hlo : w.heap.size + 1 < b2 + 1 := by omega
            exact ((((((((hx8.set ho hlo _).set ho hlo _).set ho hlo _).set ho hlo _).set ho hlo _).set ho hlo _).set ho hlo _).set ho hlo _).set ho hlo _
end Go.Proofs.YthmhalcloogniaaGreatDoor
