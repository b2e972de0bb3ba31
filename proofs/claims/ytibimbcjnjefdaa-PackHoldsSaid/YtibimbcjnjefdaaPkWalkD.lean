/- Chapter 13: the walk of Room. -/
import Derived.Test.YtibimbcjnjefdaaPkWalkC
namespace Go.Dm
open Go Go.RowKit
theorem roomF_take {f d m} {F : List SlotR} {k : Nat} (h : k < F.length) : roomF f d m (F.take (k + 1)) = roomF f d m (F.take k) + (if f (slAt F k) then vholds (slAt F k).2.1 d m else 0) := by
  rw [take_slot h, roomF_app, roomF_cons]
  simp [roomF]
theorem letR_lab (T : List RowS) : LabF (letR T) := fun _ _ => rfl
theorem sub_nat {M n : Nat} (h : n ≤ M) (hM : M ≤ 9223372036854775807) : IntKind.i64.wrap ((M : Int) - (n : Int)) = ((M - n : Nat) : Int) := by rw [IntKind.wrap_i64]; omega
theorem min_nat (a b : Nat) : (if (b : Int) < (a : Int) then (b : Int) else (a : Int)) = ((min a b : Nat) : Int) := by split <;> omega
theorem Slots.sub_filter {w w' : World} {v v' : Value} {R : List SlotR} {B e : Nat} {f : SlotR → Bool} (h : Slots w v R) (hx : Ext w w') (ho : w'.ownsRow B e 6 v' (R.filter f).length (slotCells (R.filter f))) : Slots w' v' (R.filter f) :=
  Slots.of_row ho rfl (fun r hr => (h.labs r (List.mem_filter.1 hr).1).ext hx) (fun r hr => h.okv r (List.mem_filter.1 hr).1)
end Go.Dm
namespace Go.Proofs.Ytibimbcjnjefdaa
open Go.RowKit Go.Dm

set_option maxHeartbeats 4000000 in
set_option maxRecDepth 100000 in
theorem kroomN_w (T : List RowS) (R : List SlotR) (v vx : Value) (d : Vc) (hd : OkV d) (m : Int) (M : Nat) (hM : M ≤ 9223372036854775807) (hmM : m = M ∨ (m < 0 ∧ M = 0)) (w : World) (hT : T.length ≤ 35184372088832) (hf : FitR T) (ht : Terms w vx T) (hm : R.length * 72 ≤ 140737488355328) (hk : FitK R) (hx : Slots w v R) :
    Calls Try.prog 16 #[v, vx, vVal d, .int .i64 m] w fun e w' => e = .returned (.int .i64 (roomS (letR T) d M R : Nat)) ∧ Ext w w' := by
  have hr0 : roomS (letR T) d M R = min M (roomF allS d M (R.filter (letR T))) := by unfold roomS; rw [room_filter]
  rw [hr0]
  clear hr0
  have hFl : (R.filter (letR T)).length ≤ R.length := List.length_filter_le _ _
  have hW : Ext w (w.alloc (.cells #[.int .u64 (vG d 0 : Nat), .int .u64 (vG d 1 : Nat), .int .u64 (vG d 2 : Nat), .int .u64 (vG d 3 : Nat)] 26)) := (Ext.refl _).alloc _
  have v6 := VBox.new w (vG d) 26
  have C := kfitting_w T R v vx _ hT hf (ht.ext hW) hm hk (hx.ext hW)
  have hSl := fun (w1 : World) (v1 : Value) h1 ho => Slots.sub_filter (w := w.alloc (.cells #[.int .u64 (vG d 0 : Nat), .int .u64 (vG d 1 : Nat), .int .u64 (vG d 2 : Nat), .int .u64 (vG d 3 : Nat)] 26)) (w' := w1) (v' := v1) (B := (w.alloc (.cells #[.int .u64 (vG d 0 : Nat), .int .u64 (vG d 1 : Nat), .int .u64 (vG d 2 : Nat), .int .u64 (vG d 3 : Nat)] 26)).heap.size) (e := 47) (f := letR T) (hx.ext hW) h1 ho
  generalize R.filter (letR T) = F at *
  have hn0 : min M (roomF allS d M (F.take 0)) = 0 := by simp [roomF]
  have hnE : min M (roomF allS d M F) = min M (roomF allS d M (F.take F.length)) := by rw [List.take_length]
  have hnS : ∀ k, k < F.length → vholds (slAt F k).2.1 d M ≤ M ∧ min M (roomF allS d M (F.take (k + 1))) = min M (roomF allS d M (F.take k)) + min (vholds (slAt F k).2.1 d M) (M - min M (roomF allS d M (F.take k))) := fun k h => by
    have := vholds_le (slAt F k).2.1 d M
    refine ⟨this, ?_⟩
    rw [roomF_take h]
    simp only [allS, if_true]
    omega
  have hnL : ∀ k, min M (roomF allS d M (F.take k)) ≤ M := fun k => Nat.min_le_left _ _
  rw [hnE]
  clear hnE
  obtain ⟨nn, hnn⟩ : ∃ nn : Nat → Nat, nn = fun k => min M (roomF allS d M (F.take k)) := ⟨_, rfl⟩
  have hnn' : ∀ k, min M (roomF allS d M (F.take k)) = nn k := fun k => by rw [hnn]
  simp only [hnn'] at hn0 hnS hnL ⊢
  clear hnn hnn'
  have hHo : ∀ (a : Vc), OkV a → ∀ w1, Calls Try.prog 21 #[vVal a, vVal d, .int .i64 m] w1 fun e w' => e = .returned (.int .i64 (vholds a d M : Nat)) ∧ Ext w1 w' := fun a ha w1 => vholdsN_w a d ha hd m M hM hmM w1
  obtain ⟨q2, cap2, rfl, _, _⟩ := ht.shape
  have hx0 := hx
  obtain ⟨qx, capx, rfl, _, _⟩ := hx0.shape
  unfold vVal vF at hHo ⊢
  replace C := Lib.hid C
  replace hSl := Lib.hid hSl
  replace hn0 := Lib.hid hn0
  replace hnS := Lib.hid hnS
  rcases hmM with hmM | ⟨hneg, rfl⟩
  · subst hmM
    go_enter Try.func16, Try.ntmps16
    go_wp2_with fail
    refine C.out.mono ?_; rintro e w1 ⟨v1, rfl, ho1, h1⟩
    have hF := hSl.out w1 v1 h1 ho1
    have v6a := v6.ext h1
    have hE1 := hW.trans h1
    obtain ⟨q, cap, rfl, _, _⟩ := hF.shape
    clear v6 C hSl ho1 h1 hW
    go_wp2
    go_loopw [9, 16] (fun t9 i wr => ∃ k : Nat, k ≤ F.length ∧ i = .int .i64 k ∧ t9 = .int .i64 (nn k : Nat) ∧ Ext w1 wr) (fun _ i _ => F.length - (intOf i).toNat)
    case atStart => exact ⟨0, by omega, rfl, by rw [hn0.out]; rfl, Ext.refl _⟩
    case round =>
      obtain ⟨k, hk', rfl, rfl, hb⟩ := hrel
      by_cases hlt : k < F.length
      · obtain ⟨b, off, rfl, hbl, hcs⟩ := (hF.ext hb).at hlt
        have CH := hHo _ (hF.ok hlt)
        obtain ⟨hh, hs⟩ := hnS.out k hlt
        have hnk := hnL k
        obtain ⟨pq, pc, hpe, _, _⟩ := ((hF.ext hb).lab hlt).shape
        have c0 := hcs 0 (by omega)
        have c1 := hcs 1 (by omega)
        have c2 := hcs 2 (by omega)
        have c3 := hcs 3 (by omega)
        have c4 := hcs 4 (by omega)
        have c5 := hcs 5 (by omega)
        simp only [slotOne, vAt, List.getElem?_cons_zero, List.getElem?_cons_succ, Nat.add_zero] at c0 c1 c2 c3 c4 c5
        generalize slAt F k = r at CH hh hs c0 c1 c2 c3 c4 c5 hpe
        obtain ⟨node, vv, lv, ls⟩ := r
        simp only at CH hh hs c0 c1 c2 c3 c4 c5 hpe
        subst hpe
        clear hcs
        generalize vholds vv d M = h at CH hh hs
        generalize vG vv = A at CH c0 c1 c2 c3 c4 c5
        replace CH := Lib.hid CH
        replace hs := Lib.hid hs
        have hv6 := v6a.ext hb
        obtain ⟨_, z0, z1, z2, z3, _, _, _, _⟩ := hv6.four
        have s1 := sub_nat hnk hM
        have s2 := min_nat h (M - nn k)
        have s3 : IntKind.i64.wrap ((nn k : Int) + ((min h (M - nn k) : Nat) : Int)) = ((nn k + min h (M - nn k) : Nat) : Int) := by rw [IntKind.wrap_i64]; omega
        go_wp2_with fail
        refine (CH.out _).mono ?_; rintro e w3 ⟨rfl, h3⟩
        go_wp2
        exact ⟨⟨k + 1, by omega, by simp, by rw [hs.out]; congr 1; first | omega | (split <;> omega), hb.trans (((Ext.refl _).alloc _).trans h3)⟩, by simp [intOf]; omega⟩
      · obtain rfl : k = F.length := by omega
        go_wp2
        go_ret
        exact ⟨rfl, hE1.trans hb⟩
  · go_enter Try.func16, Try.ntmps16
    go_wp2_with fail
    refine C.out.mono ?_; rintro e w1 ⟨v1, rfl, ho1, h1⟩
    have hF := hSl.out w1 v1 h1 ho1
    have v6a := v6.ext h1
    have hE1 := hW.trans h1
    obtain ⟨q, cap, rfl, _, _⟩ := hF.shape
    clear v6 C hSl ho1 h1 hW
    go_wp2
    go_loopw [9, 16] (fun t9 i wr => ∃ k : Nat, k ≤ F.length ∧ i = .int .i64 k ∧ t9 = .int .i64 (nn k : Nat) ∧ Ext w1 wr) (fun _ i _ => F.length - (intOf i).toNat)
    case atStart => exact ⟨0, by omega, rfl, by rw [hn0.out]; rfl, Ext.refl _⟩
    case round =>
      obtain ⟨k, hk', rfl, rfl, hb⟩ := hrel
      by_cases hlt : k < F.length
      · obtain ⟨b, off, rfl, hbl, hcs⟩ := (hF.ext hb).at hlt
        have CH := hHo _ (hF.ok hlt)
        obtain ⟨hh, hs⟩ := hnS.out k hlt
        have hnk := hnL k
        obtain ⟨pq, pc, hpe, _, _⟩ := ((hF.ext hb).lab hlt).shape
        have c0 := hcs 0 (by omega)
        have c1 := hcs 1 (by omega)
        have c2 := hcs 2 (by omega)
        have c3 := hcs 3 (by omega)
        have c4 := hcs 4 (by omega)
        have c5 := hcs 5 (by omega)
        simp only [slotOne, vAt, List.getElem?_cons_zero, List.getElem?_cons_succ, Nat.add_zero] at c0 c1 c2 c3 c4 c5
        generalize slAt F k = r at CH hh hs c0 c1 c2 c3 c4 c5 hpe
        obtain ⟨node, vv, lv, ls⟩ := r
        simp only at CH hh hs c0 c1 c2 c3 c4 c5 hpe
        subst hpe
        clear hcs
        generalize vholds vv d 0 = h at CH hh hs
        generalize vG vv = A at CH c0 c1 c2 c3 c4 c5
        replace CH := Lib.hid CH
        replace hs := Lib.hid hs
        have hv6 := v6a.ext hb
        obtain ⟨_, z0, z1, z2, z3, _, _, _, _⟩ := hv6.four
        have s1 := sub_nat hnk hM
        have s2 := min_nat h (0 - nn k)
        have s3 : IntKind.i64.wrap ((nn k : Int) + ((min h (0 - nn k) : Nat) : Int)) = ((nn k + min h (0 - nn k) : Nat) : Int) := by rw [IntKind.wrap_i64]; omega
        go_wp2_with fail
        refine (CH.out _).mono ?_; rintro e w3 ⟨rfl, h3⟩
        go_wp2
        exact ⟨⟨k + 1, by omega, by simp, by rw [hs.out]; congr 1; first | omega | (split <;> omega), hb.trans (((Ext.refl _).alloc _).trans h3)⟩, by simp [intOf]; omega⟩
      · obtain rfl : k = F.length := by omega
        go_wp2
        go_ret
        exact ⟨rfl, hE1.trans hb⟩

end Go.Proofs.Ytibimbcjnjefdaa
