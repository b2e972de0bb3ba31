/- Chapter 13: the walk of Fit. -/
import Derived.Test.YtibimbcjnjefdaaPkWalkD
import Derived.Test.YtibimbcjnjefdaaWTypes
namespace Go.Dm
open Go Go.RowKit

theorem fit_succ (f : SlotR → Bool) (d : Vc) (n : Nat) (G : List SlotR) : fitS f d (n + 1) G = match bestS f d G with
    | none => none
    | some (i, v) => (fitS f d n (G.set i (setFree (slAt G i) v))).map ((slAt G i).1 :: ·) := rfl
/-- What is left to be told once k copies have their place. -/
def FitAt (d : Vc) (N : Nat) (F : List SlotR) (k : Nat) (G : List SlotR) (acc : List ByteArray) : Prop :=
  fitS allS d N F = (fitS allS d (N - k) G).map (acc ++ ·)
theorem FitAt.start (d : Vc) (N : Nat) (F : List SlotR) : FitAt d N F 0 F [] := by simp [FitAt]
theorem FitAt.none {d : Vc} {N k : Nat} {F G : List SlotR} {acc} (h : FitAt d N F k G acc) (hk : k < N) (hb : bestS allS d G = none) : fitS allS d N F = none := by
  unfold FitAt at h
  obtain ⟨m, hm⟩ : ∃ m, N - k = m + 1 := ⟨N - k - 1, by omega⟩
  rw [h, hm, fit_succ, hb]; rfl
theorem FitAt.some {d : Vc} {N k i : Nat} {v : Vc} {F G : List SlotR} {acc} (h : FitAt d N F k G acc) (hk : k < N) (hb : bestS allS d G = some (i, v)) :
    FitAt d N F (k + 1) (G.set i (setFree (slAt G i) v)) (acc ++ [(slAt G i).1]) := by
  unfold FitAt at h ⊢
  obtain ⟨m, hm⟩ : ∃ m, N - k = m + 1 := ⟨N - k - 1, by omega⟩
  have hm' : N - (k + 1) = m := by omega
  rw [h, hm, fit_succ, hb, hm']
  simp only [Option.map_map]
  congr 1
  funext x
  simp
theorem FitAt.end {d : Vc} {N : Nat} {F G : List SlotR} {acc} (h : FitAt d N F N G acc) : fitS allS d N F = .some acc := by
  unfold FitAt at h
  rw [h, Nat.sub_self]; simp [fitS]
/-- The free amount of one slot is written. -/
theorem slotCells_set {G : List SlotR} {i : Nat} (hi : i < G.length) (v : Vc) : slotCells (G.set i (setFree (slAt G i) v)) = splice (slotCells G) (i * 6 + 1) [vAt v 0, vAt v 1, vAt v 2, vAt v 3] := by
  have e1 : G.set i (setFree (slAt G i) v) = G.take i ++ setFree (slAt G i) v :: G.drop (i + 1) := by rw [List.set_eq_take_append_cons_drop, if_pos hi]
  have e2 := split_at hi
  have hA : (slotCells (G.take i)).length = i * 6 := by rw [slotCells_len, List.length_take]; omega
  have hc : ∀ x : SlotR, slotCells (G.take i ++ x :: G.drop (i + 1)) = slotCells (G.take i) ++ (slotOne x ++ slotCells (G.drop (i + 1))) := fun x => by
    rw [slotCells_app]; rfl
  rw [e1, hc]
  conv => rhs; arg 1; rw [e2, hc]
  unfold splice
  have h1 : (slotCells (G.take i) ++ (slotOne (slAt G i) ++ slotCells (G.drop (i + 1)))).take (i * 6 + 1) = slotCells (G.take i) ++ [.string (slAt G i).1] := by
    rw [← hA, List.take_length_add_append]; rfl
  have h2 : (slotCells (G.take i) ++ (slotOne (slAt G i) ++ slotCells (G.drop (i + 1)))).drop (i * 6 + 1 + 4) = (slAt G i).2.2.1 :: slotCells (G.drop (i + 1)) := by
    rw [show i * 6 + 1 + 4 = (slotCells (G.take i)).length + 5 by omega, List.drop_length_add_append]; rfl
  show _ = _ ++ ([vAt v 0, vAt v 1, vAt v 2, vAt v 3] ++ List.drop (i * 6 + 1 + 4) _)
  rw [h1, h2]
  simp [slotOne, setFree]
theorem set_mem {G : List SlotR} {i : Nat} {v : Vc} {r : SlotR} (h : r ∈ G.set i (setFree (slAt G i) v)) : r ∈ G ∨ r = setFree (slAt G i) v := List.mem_or_eq_of_mem_set h
theorem best_ok {f d G i v} (h : bestS f d G = some (i, v)) (ho : ∀ r ∈ G, OkV r.2.1) : OkV v := by
  obtain ⟨hi, _, _, rfl⟩ := best_some h
  exact vsub_ok (ho _ (slAt_mem hi))
theorem splice_take {α : Type} (L : List α) {a n : Nat} (cs : List α) (h : a + cs.length ≤ n) (hn : n ≤ L.length) : (splice L a cs).take n = splice (L.take n) a cs := by
  unfold splice
  rw [List.take_append, List.take_append, List.take_take, List.take_take, List.length_take]
  have e1 : min n a = a := by omega
  have e2 : min a L.length = a := by omega
  have e3 : min a n = a := by omega
  rw [e1, e2, e3, List.take_of_length_le (l := cs) (by omega), List.drop_take]
  congr 3
  omega
end Go.Dm
namespace Go.Proofs.Ytibimbcjnjefdaa
open Go.RowKit Go.Dm

set_option maxHeartbeats 4000000 in
set_option maxRecDepth 100000 in
theorem kfitN_w (T : List RowS) (R : List SlotR) (v vx : Value) (d : Vc) (hd : OkV d) (N : Nat) (hN : N ≤ 8) (w : World) (hT : T.length ≤ 35184372088832) (hf : FitR T) (ht : Terms w vx T) (hm : R.length * 72 ≤ 140737488355328) (hk : FitK R) (hx : Slots w v R) :
    Calls Try.prog 10 #[v, vx, vVal d, .int .i64 (N : Nat)] w fun e w' => ∃ vo, e = .returned (.tuple #[vo, .bool (fitS (letR T) d N R).isSome]) ∧ Strs w' vo ((fitS (letR T) d N R).getD []) ∧ Ext w w' := by
  rw [← fit_filter (letR_lab T)]
  have hFl : (R.filter (letR T)).length ≤ R.length := List.length_filter_le _ _
  have hW : Ext w (w.alloc (.cells #[.int .u64 (vG d 0 : Nat), .int .u64 (vG d 1 : Nat), .int .u64 (vG d 2 : Nat), .int .u64 (vG d 3 : Nat)] 26)) := (Ext.refl _).alloc _
  have v6 := VBox.new w (vG d) 26
  have C := kfitting_w T R v vx _ hT hf (ht.ext hW) hm hk (hx.ext hW)
  have hlab : ∀ r ∈ R.filter (letR T), Pairs (w.alloc (.cells #[.int .u64 (vG d 0 : Nat), .int .u64 (vG d 1 : Nat), .int .u64 (vG d 2 : Nat), .int .u64 (vG d 3 : Nat)] 26)) r.2.2.1 r.2.2.2 := fun r hr => (hx.labs r (List.mem_filter.1 hr).1).ext hW
  have hok : ∀ r ∈ R.filter (letR T), OkV r.2.1 := fun r hr => hx.okv r (List.mem_filter.1 hr).1
  generalize R.filter (letR T) = F at *
  obtain ⟨q2, cap2, rfl, _, _⟩ := ht.shape
  have hx0 := hx
  obtain ⟨qx, capx, rfl, _, _⟩ := hx0.shape
  have hN8 : ¬ ((8 : Int) < (N : Int)) := by omega
  unfold vVal vF
  replace C := Lib.hid C
  go_enter Try.func10, Try.ntmps10
  go_wp2_with fail
  refine C.out.mono ?_; rintro e w1 ⟨v1, rfl, ho1, h1⟩
  clear C
  generalize w.alloc (.cells #[.int .u64 (vG d 0 : Nat), .int .u64 (vG d 1 : Nat), .int .u64 (vG d 2 : Nat), .int .u64 (vG d 3 : Nat)] 26) = w0 at *
  obtain ⟨hlen, hrow⟩ := ho1
  rcases hrow with ⟨rfl, hF0⟩ | ⟨g, cap, cur0, rfl, hbg, hg0, hnc, hcm, hcl0, htk0⟩
  · have hFn : F = [] := List.eq_nil_of_length_eq_zero hF0
    subst hFn
    have hno : 0 < N → fitS allS d N [] = none := fun h => (FitAt.start d N []).none h rfl
    have hz : N = 0 → fitS allS d N [] = some [] := fun h => by subst h; rfl
    have CB := kbest_w [] d hd _ w1 (by simp) (Slots.nil w1)
    unfold vVal vF at CB
    obtain ⟨_, z0, z1, z2, z3, _, _, _, _⟩ := (v6.ext h1).four
    replace CB := Lib.hid CB
    replace hno := Lib.hid hno
    replace hz := Lib.hid hz
    go_wp2
    go_loopw [10, 21] (fun t10 i wr => t10 = .slice none 0 0 ∧ i = .int .i64 0 ∧ wr = w1) (fun _ i _ => 0)
    case atStart => exact ⟨rfl, rfl, rfl⟩
    case round =>
      obtain ⟨rfl, rfl, rfl⟩ := hrel
      by_cases h0 : 0 < N
      · go_wp2_with fail
        refine CB.out.mono ?_; rintro e w2 ⟨rfl, h2⟩
        go_wp2
        go_ret2
        exact ⟨.slice none 0 0, by rw [hno.out h0]; rfl, by rw [hno.out h0]; exact Strs.nil _, hW.trans (h1.trans (h2.trans ((Ext.refl _).alloc _)))⟩
      · go_wp2
        go_ret2
        exact ⟨.slice none 0 0, by rw [hz.out (by omega)]; rfl, by rw [hz.out (by omega)]; exact Strs.nil _, hW.trans h1⟩
  · obtain ⟨cl, hcl1⟩ : ∃ cl, cl = cur0.toList := ⟨_, rfl⟩
    have hg1 : w1.heap[g]? = some (.cells cl.toArray 47 (0, 0)) := by rw [hcl1, Array.toArray_toList]; exact hg0
    have hcl2 : cl.length = cap * 6 := by rw [hcl1]; simpa using hcl0
    rw [← hcl1] at htk0
    have hfs := FitAt.start d N F
    replace hfs := Lib.hid hfs
    replace htk0 := Lib.hid htk0
    clear hcl0 hg0 hcl1
    go_wp2
    go_loopw [10, 21] (fun t10 i wr => ∃ (k : Nat) (G : List SlotR) (acc : List ByteArray) (cur : List Value), k ≤ N ∧ i = .int .i64 k ∧ G.length = F.length ∧ acc.length = k ∧ Ext w0 wr ∧ wr.heap[g]? = some (.cells cur.toArray 47 (0, 0)) ∧ cur.length = cap * 6 ∧
      wr.ownsRow w0.heap.size 9 1 t10 k (acc.map .string) ∧ (∀ b, t10.ownBlock = some b → b ≠ g) ∧ Hid (cur.take (F.length * 6) = slotCells G ∧ (∀ r ∈ G, Pairs w0 r.2.2.1 r.2.2.2) ∧ (∀ r ∈ G, OkV r.2.1) ∧ FitAt d N F k G acc)) (fun _ i _ => N - (intOf i).toNat)
    case atStart => exact ⟨0, F, [], cl, by omega, rfl, rfl, rfl, h1, hg1, hcl2, World.ownsRow_nil _ _ _ _, (fun b hb => by cases hb), ⟨htk0.out, hlab, hok, hfs.out⟩⟩
    case round =>
      obtain ⟨k, G, acc, cur, hkN, rfl, hGl, hal, hb, hg, hcl, hown, hap, HH⟩ := hrel
      by_cases hlt : k < N
      · obtain ⟨htk, hlG, hoG, hFA⟩ := HH.out
        have hSl : Slots wr (.slice (some ⟨g, 0, none⟩) F.length cap) G := Slots.of_row (B := w0.heap.size) (e := 47) (n := F.length) ⟨by rw [slotCells_len, hGl], Or.inr ⟨g, cap, cur.toArray, rfl, hbg, hg, hnc, hcm, by simpa using hcl, htk⟩⟩ hGl.symm (fun r hr => (hlG r hr).ext hb) hoG
        have hGl' := Lib.hid hGl
        have CB := kbest_w G d hd _ wr (by omega) hSl
        have hno := fun h => hFA.none hlt h
        have hyes := fun i V h => hFA.some (i := i) (v := V) hlt h
        have hbo := fun i V h => best_ok (f := allS) (d := d) (G := G) (i := i) (v := V) h hoG
        have hbl := fun i V h => bestS_lt (f := allS) (d := d) (l := G) (i := i) (v := V) h
        obtain ⟨_, z0, z1, z2, z3, _, _, _, _⟩ := (v6.ext hb).four
        clear HH hFA
        cases hB : bestS allS d G with
        | none =>
          have hS := Lib.hid (hno hB)
          rw [hB] at CB
          simp only [bI, bV, Option.isSome_none] at CB
          unfold vVal vF at CB
          replace CB := Lib.hid CB
          clear hno hyes hbo hbl hB htk
          go_wp2_with fail
          refine CB.out.mono ?_; rintro e w2 ⟨rfl, h2⟩
          go_wp2
          go_ret2
          exact ⟨.slice none 0 0, by rw [hS.out]; rfl, by rw [hS.out]; exact Strs.nil _, hW.trans (hb.trans (h2.trans ((Ext.refl _).alloc _)))⟩
        | some qb =>
          obtain ⟨i, V⟩ := qb
          have hF1 := Lib.hid (hyes i V hB)
          have hOV := hbo i V hB
          have hiG := hbl i V hB
          have hiF : i < F.length := by omega
          rw [hB] at CB
          simp only [bI, bV, Option.isSome_some] at CB
          unfold vVal vF at CB
          replace CB := Lib.hid CB
          have hSl' : Slots wr (.slice (some ⟨g, 0, none⟩) G.length cap) G := by rw [hGl]; exact hSl
          obtain ⟨gb, go, hge, hgl, hcs⟩ := hSl'.at hiG
          injection hge with hge
          injection hge with hge1 hge2
          subst hge1 hge2
          have c0 := hcs 0 (by omega)
          simp only [slotOne, vAt, List.getElem?_cons_zero, Nat.add_zero, Nat.zero_add] at c0
          clear hcs hSl'
          clear hno hyes hbo hbl hB
          go_wp2_with fail
          refine CB.out.mono ?_; rintro e w2 ⟨rfl, h2⟩
          have ha3 := h2.trans ((Ext.refl w2).alloc (.cells #[.int .u64 (vG V 0 : Nat), .int .u64 (vG V 1 : Nat), .int .u64 (vG V 2 : Nat), .int .u64 (vG V 3 : Nat)] 26))
          have v12 := VBox.new w2 (vG V) 26
          have hgs2 : wr.heap.size ≤ w2.heap.size := h2.size
          have c0a : (w2.alloc (.cells #[.int .u64 (vG V 0 : Nat), .int .u64 (vG V 1 : Nat), .int .u64 (vG V 2 : Nat), .int .u64 (vG V 3 : Nat)] 26)).cell? ⟨g, i * 6, none⟩ = some (.string (slAt G i).1) := by rw [ha3.cell (by exact hgl)]; exact c0
          have hE3 := hb.trans ha3
          have hown3 := Ext.row hown ha3
          have hg3 := Ext.heap hg ha3
          have hvb := fun bb e => (World.ownsRow.lt hown bb e).2
          have hn12 := fun e => Nat.lt_irrefl _ (Nat.lt_of_lt_of_le (hvb w2.heap.size e) hgs2)
          have hE4 := hE3.trans ((Ext.refl _).alloc (.cells #[.string (slAt G i).1] 9))
          have ho4 := Ext.row hown3 ((Ext.refl _).alloc (.cells #[.string (slAt G i).1] 9))
          have hg4 := Ext.heap hg3 ((Ext.refl _).alloc (.cells #[.string (slAt G i).1] 9))
          have hl4 := Sl.lit (w2.alloc (.cells #[.int .u64 (vG V 0 : Nat), .int .u64 (vG V 1 : Nat), .int .u64 (vG V 2 : Nat), .int .u64 (vG V 3 : Nat)] 26)) 9 1 1 #[.string (slAt G i).1] rfl (by simp [maxLen])
          rw [World.size_alloc] at hl4
          have v12b := v12.ext ((Ext.refl _).alloc (.cells #[.string (slAt G i).1] 9))
          have hone1 : ∀ u ∈ (#[Value.string (slAt G i).1] : Array Value).toList, u.oneCell' = true := fun u hu => by simp at hu; subst hu; rfl
          have hone4 : ∀ u ∈ [vAt V 0, vAt V 1, vAt V 2, vAt V 3], u.oneCell' = true := fun u hu => by
            simp only [List.mem_cons, List.not_mem_nil, or_false] at hu
            rcases hu with rfl | rfl | rfl | rfl <;> rfl
          have hfit : i * 6 + 1 + 4 ≤ cur.length := by omega
          generalize hnm : (slAt G i).1 = node at *
          clear hown hown3 hg hg3 z0 z1 z2 z3 c0 hnm
          go_wp2_with (first
            | (at_builtin
               refine wpList_appO rfl _ _ Try.slStr rfl hE4.size rfl ho4 rfl hl4 (by omega) hone1 (by omega) ?_
               intro v5 w5 ho5 hg5 hor5
               have hX5 : Ext w0 w5 := hE4.app ho4 hg5 (Nat.le_refl _)
               have hg5h := hg5.block g (Array.getElem?_eq_some_iff.1 hg4).1 (fun e => hap g e.symm rfl)
               have hg5g : w5.heap[g]? = some (.cells cur.toArray 47 (0, 0)) := by rw [hg5h]; exact hg4
               have x0 := hg5.cell (v12b.cell 0 (by omega)) (fun e => hn12 e.symm)
               have x1 := hg5.cell (v12b.cell 1 (by omega)) (fun e => hn12 e.symm)
               have x2 := hg5.cell (v12b.cell 2 (by omega)) (fun e => hn12 e.symm)
               have x3 := hg5.cell (v12b.cell 3 (by omega)) (fun e => hn12 e.symm))
            | (refine wpList_store_at rfl _ _ _ rfl (g := g) (off := i * 6 + 1) (cells := [vAt V 0, vAt V 1, vAt V 2, vAt V 3]) rfl rfl rfl (by kernel_rfl) hg5g hfit hone4 ?_
               intro w6 hg6 hgr6))
          have hapv : ∀ b, v5.ownBlock = some b → b ≠ g := fun b hb e => by
            rcases hor5 with h | h
            · exact hap b (h ▸ hb) e
            · rw [h] at hb
              injection hb with hb
              simp only [World.size_alloc] at hb
              omega
          have hlen4 : i * 6 + 1 + [vAt V 0, vAt V 1, vAt V 2, vAt V 3].length ≤ cur.length := hfit
          refine ⟨⟨k + 1, G.set i (setFree (slAt G i) V), acc ++ [node], _, by omega, by simp, by rw [List.length_set]; exact hGl'.out, by rw [List.length_append, hal]; rfl, hX5.put hgr6 hbg, hg6, by rw [length_splice _ _ _ hlen4]; exact hcl,
            row_grown (by rw [List.map_append]; exact ho5) hgr6 (fun b hb e => hapv b hb (by injection e with e; exact e.symm)), hapv, ⟨?_, fun r hr => ?_, fun r hr => ?_, hF1.out⟩⟩, by simp [intOf]; omega⟩
          · rw [splice_take _ _ (by show i * 6 + 1 + 4 ≤ _; omega) (by rw [hcl]; exact Nat.mul_le_mul_right _ hnc), htk, slotCells_set hiG V]
          · rcases set_mem hr with h | h
            · exact hlG r h
            · rw [h]; exact hlG (slAt G i) (slAt_mem hiG)
          · rcases set_mem hr with h | h
            · exact hoG r h
            · rw [h]; exact hOV
      · obtain rfl : k = N := by omega
        obtain ⟨_, _, _, hFA⟩ := HH.out
        have hS := Lib.hid hFA.end
        have hvo := Sl.of_owns hown
        clear HH hFA
        go_wp2
        go_ret2
        refine ⟨_, by rw [hS.out]; rfl, ?_, hW.trans hb⟩
        rw [hS.out]
        show Sl _ 1 _ acc.length _
        rw [hal]
        exact hvo

/-- P13.2: what is told of so many. -/
def fitI (f : SlotR → Bool) (d : Vc) (n : Int) (l : List SlotR) : Option (List ByteArray) := if 8 < n then none else fitS f d n.toNat l

set_option maxHeartbeats 1000000 in
set_option maxRecDepth 100000 in
theorem kfit_w (T : List RowS) (R : List SlotR) (v vx : Value) (d : Vc) (hd : OkV d) (n : Int) (w : World) (hT : T.length ≤ 35184372088832) (hf : FitR T) (ht : Terms w vx T) (hm : R.length * 72 ≤ 140737488355328) (hk : FitK R) (hx : Slots w v R) :
    Calls Try.prog 10 #[v, vx, vVal d, .int .i64 n] w fun e w' => ∃ vo, e = .returned (.tuple #[vo, .bool (fitI (letR T) d n R).isSome]) ∧ Strs w' vo ((fitI (letR T) d n R).getD []) ∧ Ext w w' := by
  by_cases h8 : 8 < n
  · have hI : fitI (letR T) d n R = none := by unfold fitI; rw [if_pos h8]
    rw [hI]
    unfold vVal vF
    obtain ⟨q2, cap2, rfl, _, _⟩ := ht.shape
    obtain ⟨qx, capx, rfl, _, _⟩ := hx.shape
    go_enter Try.func10, Try.ntmps10
    go_wp2
    go_ret2
    exact ⟨_, rfl, Strs.nil _, (Ext.refl _).alloc _⟩
  · by_cases h0 : n < 0
    · have hI : fitI (letR T) d n R = some [] := by unfold fitI; rw [if_neg h8, show n.toNat = 0 by omega]; rfl
      rw [hI]
      have hW : Ext w (w.alloc (.cells #[.int .u64 (vG d 0 : Nat), .int .u64 (vG d 1 : Nat), .int .u64 (vG d 2 : Nat), .int .u64 (vG d 3 : Nat)] 26)) := (Ext.refl _).alloc _
      have C := kfitting_w T R v vx _ hT hf (ht.ext hW) hm hk (hx.ext hW)
      unfold vVal vF
      obtain ⟨q2, cap2, rfl, _, _⟩ := ht.shape
      have hx0 := hx
      obtain ⟨qx, capx, rfl, _, _⟩ := hx0.shape
      replace C := Lib.hid C
      go_enter Try.func10, Try.ntmps10
      go_wp2_with fail
      refine C.out.mono ?_; rintro e w1 ⟨v1, rfl, ho1, h1⟩
      have hsh : ∃ q cap, v1 = .slice q (R.filter (letR T)).length cap := by
        obtain ⟨p, cap, h, _⟩ := Sl.shape (Sl.of_owns ho1)
        exact ⟨p, cap, h⟩
      obtain ⟨q, cap, rfl⟩ := hsh
      clear C ho1
      go_wp2
      go_loopw [10, 21] (fun t10 i wr => t10 = .slice none 0 0 ∧ i = .int .i64 0 ∧ wr = w1) (fun _ i _ => 0)
      case atStart => exact ⟨rfl, rfl, rfl⟩
      case round =>
        obtain ⟨rfl, rfl, rfl⟩ := hrel
        go_wp2
        go_ret2
        exact ⟨_, rfl, Strs.nil _, hW.trans h1⟩
    · obtain ⟨N, rfl⟩ : ∃ N : Nat, n = N := ⟨n.toNat, by omega⟩
      have hI : fitI (letR T) d N R = fitS (letR T) d N R := by unfold fitI; rw [if_neg h8, Int.toNat_natCast]
      rw [hI]
      exact kfitN_w T R v vx d hd N (by omega) w hT hf ht hm hk hx

theorem kroom_w (T : List RowS) (R : List SlotR) (v vx : Value) (d : Vc) (hd : OkV d) (m : Int) (hm64 : m ≤ 9223372036854775807) (w : World) (hT : T.length ≤ 35184372088832) (hf : FitR T) (ht : Terms w vx T) (hm : R.length * 72 ≤ 140737488355328) (hk : FitK R) (hx : Slots w v R) :
    Calls Try.prog 16 #[v, vx, vVal d, .int .i64 m] w fun e w' => e = .returned (.int .i64 (roomS (letR T) d m.toNat R : Nat)) ∧ Ext w w' :=
  kroomN_w T R v vx d hd m m.toNat (by omega) (by omega) w hT hf ht hm hk hx

end Go.Proofs.Ytibimbcjnjefdaa
