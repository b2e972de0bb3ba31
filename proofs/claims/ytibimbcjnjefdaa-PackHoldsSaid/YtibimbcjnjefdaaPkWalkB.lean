/- Chapter 13: the walks of DeleteFunc, fitting. -/
import Derived.Test.YtibimbcjnjefdaaPkWalkA
namespace Go.Dm
open Go Go.RowKit

/-- How far the slots that are let have been put together. -/
structure DelS (f : SlotR → Bool) (R : List SlotR) (cap i j : Nat) (cur : List Value) : Prop where
  num : i = ((R.take j).filter f).length
  lt : i < j
  len : cur.length = cap * 6
  kept : cur.take (i * 6) = slotCells ((R.take j).filter f)
  rest : ∀ q, j * 6 ≤ q → q < R.length * 6 → cur[q]? = (slotCells R)[q]?
theorem take_slot {R : List SlotR} {j : Nat} (h : j < R.length) : R.take (j + 1) = R.take j ++ [slAt R j] := by rw [List.take_succ_eq_append_getElem h, slAt_eq h]
theorem filter_all {f : SlotR → Bool} : ∀ {l : List SlotR}, (∀ r ∈ l, f r = true) → l.filter f = l
  | [], _ => rfl
  | x :: l, h => by rw [List.filter_cons_of_pos (h x (by simp)), filter_all fun r hr => h r (List.mem_cons_of_mem _ hr)]
theorem DelS.start {f : SlotR → Bool} {R : List SlotR} {cap k : Nat} {cur : List Value} (hk : k < R.length) (hb : ∀ j, j < k → f (slAt R j) = true) (hn : f (slAt R k) = false)
    (hl : cur.length = cap * 6) (hc : cur.take (R.length * 6) = slotCells R) : DelS f R cap k (k + 1) cur := by
  have e : (R.take (k + 1)).filter f = R.take k := by
    rw [take_slot hk, List.filter_append, List.filter_cons_of_neg (by simp [hn]), List.filter_nil, List.append_nil]
    refine filter_all fun r hr => ?_
    obtain ⟨j, hj, rfl⟩ := List.getElem_of_mem hr
    rw [List.length_take] at hj
    rw [List.getElem_take, ← slAt_eq (by omega)]
    exact hb j (by omega)
  refine ⟨by rw [e, List.length_take]; omega, by omega, hl, ?_, fun q h1 h2 => ?_⟩
  · rw [e, ← slotCells_take R k (by omega), ← hc, List.take_take, Nat.min_eq_left (by omega)]
  · rw [← hc, List.getElem?_take, if_pos h2]
theorem DelS.no {f : SlotR → Bool} {R : List SlotR} {cap i j : Nat} {cur : List Value} (h : DelS f R cap i j cur) (hj : j < R.length) (hn : f (slAt R j) = false) : DelS f R cap i (j + 1) cur := by
  have e : (R.take (j + 1)).filter f = (R.take j).filter f := by
    rw [take_slot hj, List.filter_append, List.filter_cons_of_neg (by simp [hn]), List.filter_nil, List.append_nil]
  exact ⟨by rw [e]; exact h.num, by have := h.lt; omega, h.len, by rw [e]; exact h.kept, fun q h1 h2 => h.rest q (by omega) h2⟩
theorem slotOne_len (r : SlotR) : (slotOne r).length = 6 := rfl
theorem DelS.yes {f : SlotR → Bool} {R : List SlotR} {cap i j : Nat} {cur : List Value} (h : DelS f R cap i j cur) (hj : j < R.length) (hc : R.length ≤ cap) (hn : f (slAt R j) = true) :
    DelS f R cap (i + 1) (j + 1) (splice cur (i * 6) (slotOne (slAt R j))) := by
  have e : (R.take (j + 1)).filter f = (R.take j).filter f ++ [slAt R j] := by
    rw [take_slot hj, List.filter_append, List.filter_cons_of_pos hn, List.filter_nil]
  have hlt := h.lt
  have hl := h.len
  have hfit : i * 6 + (slotOne (slAt R j)).length ≤ cur.length := by rw [slotOne_len, hl]; omega
  refine ⟨by rw [e, List.length_append, ← h.num]; rfl, by omega, by rw [length_splice _ _ _ hfit]; exact hl, ?_, fun q h1 h2 => ?_⟩
  · rw [e, slotCells_app, ← h.kept]
    unfold splice
    rw [← List.append_assoc]
    have : slotCells [slAt R j] = slotOne (slAt R j) := by simp [slotCells]
    rw [this]
    apply List.take_left'
    rw [List.length_append, slotOne_len, List.length_take]
    omega
  · rw [← h.rest q (by omega) h2]
    unfold splice
    rw [List.getElem?_append_right (by rw [List.length_take]; omega), List.getElem?_append_right (by rw [List.length_take, slotOne_len]; omega), List.getElem?_drop]
    congr 1
    rw [List.length_take, slotOne_len]
    omega
theorem DelS.done {f : SlotR → Bool} {R : List SlotR} {cap i j : Nat} {cur : List Value} (h : DelS f R cap i j cur) (hj : j = R.length) : i = (R.filter f).length ∧ cur.take (i * 6) = slotCells (R.filter f) := by
  subst hj
  have h1 := h.num
  have h2 := h.kept
  rw [List.take_length] at h1 h2
  exact ⟨h1, h2⟩
theorem DelS.at {f : SlotR → Bool} {R : List SlotR} {cap i j : Nat} {cur : List Value} (h : DelS f R cap i j cur) (hj : j < R.length) {w : World} {g e : Nat} (hg : w.heap[g]? = some (.cells cur.toArray e (0, 0))) {q : Nat} (hq : q < 6) :
    w.cell? ⟨g, j * 6 + q, none⟩ = (slotOne (slAt R j))[q]? := by
  rw [cell_of_row w g _ cur.toArray e (0, 0) hg]
  have := h.rest (j * 6 + q) (by omega) (by omega)
  rw [slotCells_at R j hj q hq] at this
  simpa using this
theorem Ext.put {w0 w w' : World} {g : Nat} (h : Ext w0 w) (hg : w.grownBy w' (some g)) (hb : w0.heap.size ≤ g) : Ext w0 w' :=
  Below.grown h hg h.size (fun k hk => by injection hk with hk; omega)
end Go.Dm
namespace Go.Proofs.Ytibimbcjnjefdaa
open Go.RowKit Go.Dm

theorem Try.oneSlot : ∀ i z, Try.prog.info? 47 = some i → i.zero = some z → ∀ u ∈ z.cells, u.oneCell' = true := by
  have h : (Try.prog.info? 47).map (fun i => i.zero.map fun z => z.cells.all (·.oneCell')) = some (some true) := by kernel_rfl
  intro i z hi hz
  rw [hi] at h
  simp only [Option.map_some, hz, Option.some.injEq] at h
  exact Array.all_eq_true_iff_forall_mem.1 h

set_option maxHeartbeats 4000000 in
set_option maxRecDepth 100000 in
theorem kdelete_w (T : List RowS) (R : List SlotR) (v vx : Value) (c o : Nat) (w0 w : World) (hT : T.length ≤ 35184372088832) (hf : FitR T) (ht : Terms w0 vx T) (hm : R.length ≤ 35184372088832) (hk : FitK R)
    (hlab : ∀ r ∈ R, Pairs w0 r.2.2.1 r.2.2.2) (hok : ∀ r ∈ R, OkV r.2.1) (hE : Ext w0 w) (ho : w.ownsRow w0.heap.size 47 6 v R.length (slotCells R)) (hcl : c < w0.heap.size) (hc : w0.cell? ⟨c, o, none⟩ = some vx) :
    Calls Try.prog 35 #[v, .func (.func 37) #[] #[.pointer (some ⟨c, o, none⟩)]] w
      fun e w' => ∃ v', e = .returned v' ∧ w'.ownsRow w0.heap.size 47 6 v' (R.filter (letR T)).length (slotCells (R.filter (letR T))) ∧ Ext w0 w' := by
  have hcE : ∀ U, Ext w0 U → c < U.heap.size ∧ U.cell? ⟨c, o, none⟩ = some vx := fun U hU => ⟨Nat.lt_of_lt_of_le hcl hU.size, by rw [hU.cell (by exact hcl)]; exact hc⟩
  have hx : Slots w v R := Slots.of_row ho rfl (fun r hr => (hlab r hr).ext hE) hok
  have hx1 := hx.one
  have C0 := kindex_w T R v vx c o w hT hf (ht.ext hE) hm hk hx (hcE w hE).1 (hcE w hE).2
  obtain ⟨hlen, hrow⟩ := ho
  rcases hrow with ⟨rfl, hR0⟩ | ⟨g, cap, cur0, rfl, hbg, hg0, hnc, hcm, hcl0, htk0⟩
  · have hR : R = [] := List.eq_nil_of_length_eq_zero hR0
    subst hR
    go_enter Try.func35, Try.ntmps35
    go_wp2_with fail
    refine C0.mono ?_; rintro e w1 ⟨i, rfl, hF, h1⟩
    have hi : i = -1 := by
      rcases hF with ⟨h, _⟩ | ⟨k, _, h, _⟩
      · exact h
      · exact absurd h (by simp)
    subst hi
    go_wp2
    go_ret
    exact ⟨_, rfl, World.ownsRow_nil _ _ _ _, hE.trans h1⟩
  · obtain ⟨cl, hcl1⟩ : ∃ cl, cl = cur0.toList := ⟨_, rfl⟩
    have hg1 : w.heap[g]? = some (.cells cl.toArray 47 (0, 0)) := by rw [hcl1, Array.toArray_toList]; exact hg0
    have hcl2 : cl.length = cap * 6 := by rw [hcl1]; simpa using hcl0
    rw [← hcl1] at htk0
    have hown0 : ∀ U, Ext w U → U.ownsRow w0.heap.size 47 6 (.slice (some ⟨g, 0, none⟩) R.length cap) R.length (slotCells R) := fun U hU => Ext.row ⟨hlen, Or.inr ⟨g, cap, cur0, rfl, hbg, hg0, hnc, hcm, hcl0, by rw [← hcl1]; exact htk0⟩⟩ hU
    replace hown0 := Lib.hid hown0
    clear hcl0 hg0 hcl1 hlen hx
    go_enter Try.func35, Try.ntmps35
    go_wp2_with fail
    refine C0.mono ?_; rintro e w1 ⟨i, rfl, hF, h1⟩
    clear C0
    have hE1 := hE.trans h1
    have hg2 := Ext.heap hg1 h1
    rcases hF with ⟨rfl, hall⟩ | ⟨k, rfl, hkl, hkb, hkn⟩
    · have hfl := Lib.hid (filter_all hall)
      go_wp2
      go_ret
      exact ⟨_, rfl, by rw [hfl.out]; exact hown0.out _ h1, hE1⟩
    · have hD := Lib.hid (DelS.start hkl hkb hkn hcl2 htk0)
      clear hkb hkn hown0 htk0 hcl2 hg1
      obtain ⟨K, hK⟩ : ∃ K, K = k + 1 := ⟨_, rfl⟩
      have hkw : IntKind.i64.wrap ((k : Int) + 1) = (K : Int) := by rw [IntKind.wrap_i64]; omega
      have hkm : ((k : Int) == -1) = false := beq_eq_false_iff_ne.2 (by omega)
      have hkK : k < K := by omega
      have hKR : K ≤ R.length := by omega
      rw [← hK] at hD
      clear hK
      go_wp2
      go_loopw [5, 6] (fun i' j' wr => ∃ (i j : Nat) (cur : List Value), i' = .int .i64 i ∧ j' = .int .i64 j ∧ i < j ∧ j ≤ R.length ∧ Ext w0 wr ∧ wr.heap[g]? = some (.cells cur.toArray 47 (0, 0)) ∧ Hid (DelS (letR T) R cap i j cur)) (fun _ j' _ => R.length - (intOf j').toNat)
      case atStart => exact ⟨k, K, cl, rfl, rfl, hkK, hKR, hE1, hg2, hD⟩
      case round =>
        clear hkw hD hkl h1 hg2 hkK hKR
        obtain ⟨i, j, cur, rfl, rfl, hij, hjn, hx, hg, HD⟩ := hrel
        by_cases hlt : j < R.length
        · have C := fun U (hU : Ext wr U) => fitc_w T (slAt R j).1 (vG (slAt R j).2.1) (slAt R j).2.2.1 (slAt R j).2.2.2 vx c o U hT hf (ht.ext (hx.trans hU)) (hk _ (slAt_mem hlt)) ((hlab _ (slAt_mem hlt)).ext (hx.trans hU)) (hcE _ (hx.trans hU)).1 (hcE _ (hx.trans hU)).2
          have c0 := HD.out.at hlt hg (q := 0) (by omega)
          have c1 := HD.out.at hlt hg (q := 1) (by omega)
          have c2 := HD.out.at hlt hg (q := 2) (by omega)
          have c3 := HD.out.at hlt hg (q := 3) (by omega)
          have c4 := HD.out.at hlt hg (q := 4) (by omega)
          have c5 := HD.out.at hlt hg (q := 5) (by omega)
          simp only [slotOne, vAt, List.getElem?_cons_zero, List.getElem?_cons_succ, Nat.add_zero] at c0 c1 c2 c3 c4 c5
          obtain ⟨pq, pc, hpe, _, _⟩ := (hlab _ (slAt_mem hlt)).shape
          have hNo := Lib.hid (fun h => HD.out.no hlt h)
          have hYes := Lib.hid (fun h => HD.out.yes hlt hnc h)
          have hone : ∀ u ∈ slotOne (slAt R j), u.oneCell' = true := fun u hu => hx1 u (List.mem_flatMap.2 ⟨_, slAt_mem hlt, hu⟩)
          have hfit : i * 6 + 6 ≤ cur.length := by have h1 := HD.out.len; omega
          rw [show matchS (T.map rowT) (slAt R j).2.2.2 = letR T (slAt R j) from rfl] at C
          clear HD
          generalize hdd : letR T (slAt R j) = d at C hNo hYes
          clear hdd
          generalize slAt R j = r at C c0 c1 c2 c3 c4 c5 hpe hYes hone
          obtain ⟨node, vv, lv, ls⟩ := r
          simp only at C c0 c1 c2 c3 c4 c5 hpe
          subst hpe
          simp only [slotOne, vAt] at hYes hone
          generalize vG vv = A at C c0 c1 c2 c3 c4 c5 hYes hone
          replace C := Lib.hid C
          replace hone := Lib.hid hone
          cases d with
          | false =>
            have hN := hNo.out rfl
            replace hN := Lib.hid hN
            clear hNo hYes hone
            go_wp2_with fail
            refine (C.out _ ((Ext.refl _).alloc _)).mono ?_; rintro e w3 ⟨rfl, h3⟩
            have hX3 : Ext wr w3 := ((Ext.refl _).alloc _).trans h3
            have hg3 := Ext.heap hg hX3
            go_wp2
            go_roundw
            case rel => exact ⟨i, j + 1, cur, rfl, by go_num, by omega, by omega, hx.trans hX3, hg3, hN⟩
            case measure => simp [intOf]; omega
          | true =>
            have hN := hYes.out rfl
            replace hN := Lib.hid hN
            clear hNo hYes
            go_wp2_with fail
            refine (C.out _ ((Ext.refl _).alloc _)).mono ?_; rintro e w3 ⟨rfl, h3⟩
            have hX3 : Ext wr w3 := ((Ext.refl _).alloc _).trans h3
            have hg3 := Ext.heap hg hX3
            obtain ⟨gs, gb⟩ := h3.box
            have g0 := gb 0 _ rfl
            have g1 := gb 1 _ rfl
            have g2 := gb 2 _ rfl
            have g3 := gb 3 _ rfl
            have g4 := gb 4 _ rfl
            have g5 := gb 5 _ rfl
            clear gb
            go_wp2_with (refine wpList_store_at rfl _ _ _ rfl (g := g) (off := i * 6) rfl rfl rfl (by kernel_rfl) hg3 hfit hone.out ?_; intro w4 hg4 hgr)
            go_roundw
            case rel => exact ⟨i + 1, j + 1, _, by go_num, by go_num, by omega, by omega, (hx.trans hX3).put hgr hbg, hg4, hN⟩
            case measure => simp [intOf]; omega
        · obtain rfl : j = R.length := by omega
          obtain ⟨hi, htk⟩ := HD.out.done rfl
          have hlc := HD.out.len
          have hsl := fun w => run_slice_low_at (P := Try.prog) 22 47 6 Try.slSlot.ht Try.slSlot.hs g 0 R.length cap i (by omega) (by omega) w
          rw [Nat.zero_add] at hsl
          have hsh := fun w => run_slice_high (P := Try.prog) 22 47 6 Try.slSlot.ht Try.slSlot.hs (some ⟨g, 0, none⟩) R.length cap i (by omega) w
          replace hi := Lib.hid hi
          replace htk := Lib.hid htk
          clear HD
          go_wp2_with (refine wpList_clear rfl _ Try.slSlot rfl rfl hg (fun _ => rfl) (by omega) Try.oneSlot ?_; intro w4 cur4 hg4 hl4 ht4 hgr4)
          go_ret
          refine ⟨_, rfl, ?_, hx.put hgr4 hbg⟩
          rw [← hi.out]
          refine ⟨by rw [← htk.out, List.length_take]; omega, Or.inr ⟨g, cap, cur4.toArray, rfl, hbg, hg4, by omega, hcm, by rw [List.size_toArray]; omega, ?_⟩⟩
          rw [← htk.out, ← ht4]

end Go.Proofs.Ytibimbcjnjefdaa
