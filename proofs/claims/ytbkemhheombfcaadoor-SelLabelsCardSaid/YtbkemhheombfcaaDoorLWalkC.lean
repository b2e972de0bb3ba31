/- Chapter 4: the walks of the program's Put and Text. -/
import Derived.Test.YtbkemhheombfcaaDoorLWalkB
import Derived.Test.YtbkemhheombfcaaDoorShelf
namespace Go.Dm
open Go Go.RowKit
theorem putT_len (t : Bs) (h : t.length ≤ 140737488351232) : (putT t).length ≤ 140737488351242 := by
  have := putL_ten (u := t.length) (show t.length < _ by omega)
  unfold putT
  rw [List.length_append]; omega
def textB (t : ByteArray) : ByteArray := ⟨(putT t.data.toList).toArray⟩
theorem textB_size (t : ByteArray) (h : t.size ≤ 140737488351232) : (textB t).size ≤ 140737488351242 := by
  rw [size_len]
  exact putT_len _ (by rw [← size_len]; exact h)

/-- A label as it is read. -/
def showB (p : PairS) : ByteArray := (p.1 ++ ⟨#[61]⟩) ++ p.2
theorem showB_bytes (p : PairS) : (showB p).data.toList = showP (pL p) := by
  unfold showB
  rw [data_append, data_append, List.append_assoc]; rfl
theorem showB_all (l : List PairS) : (l.map showB).map (·.data.toList) = (labL l).map showP := by
  rw [List.map_map, labL, List.map_map]
  exact List.map_congr_left fun p _ => showB_bytes p
theorem take_snocP {l : List PairS} {k : Nat} (hk : k < l.length) : l.take (k + 1) = l.take k ++ [pairAt l k] := by
  rw [List.take_succ_eq_append_getElem hk]
  simp [hk, pairAt]

/-- A name has at most 32 bytes. -/
theorem okL_len : ∀ (n : Nat) (b : Bool) (l : Bs), l.length ≤ n → okL b l = true → l.length ≤ 2 * countL l := by
  intro n
  induction n with
  | zero => intro b l hl _; omega
  | succ n ih =>
    intro b l hl hok
    by_cases h : l = []
    · subst h; simp
    · rw [okL_step b h, Bool.and_eq_true] at hok
      have hw := wideL_pos l
      have h2 := ih false (l.drop (wideL l)) (by rw [List.length_drop]; omega) hok.2
      rw [List.length_drop] at h2
      have hle := wideL_le h
      have hw2 : wideL l ≤ 2 := by
        have hlm := (letterB_plain (r := runeL l) (by have := hok.1; cases b <;> simp_all)).2
        unfold wideL runeL decL at *
        repeat' split
        all_goals first
          | (simp only; omega)
          | skip
        all_goals simp_all
        all_goals omega
      rw [countL_step h]; omega
theorem right_len {l : Bs} (h : rightL l = true) : l.length ≤ 32 := by
  unfold rightL at h
  simp only [Bool.and_eq_true, decide_eq_true_eq] at h
  have := okL_len l.length true l (Nat.le_refl _) h.1.1
  omega
end Go.Dm
namespace Go.Proofs.YtbkemhheombfcaaDoor
open Go.RowKit Go.Dm

set_option maxHeartbeats 2000000 in
set_option maxRecDepth 100000 in
theorem lput_w (l : List PairS) (v : Value) (w : World) (hm : l.length ≤ 35184372088832) (hf : FitP l) (hx : Pairs w v l) (ht : Tabs w) :
    Calls Tryd.prog 20 #[v] w fun e w' => e = .returned (.string ⟨(putLab (labL l)).toArray⟩) ∧ Ext w w' := by
  obtain ⟨q, cap, rfl, hcap, hcm⟩ := hx.shape
  have C := lright_w l _ w hm hf hx ht
  cases hR : rightLab (labL l) with
  | false =>
    have hz : Hid (putLab (labL l) = []) := by show _ = _; unfold putLab; rw [hR]; rfl
    rw [hR] at C
    clear hR
    go_enter Tryd.func20, Tryd.ntmps20
    go_wp2_with fail
    refine C.mono ?_; rintro e w1 ⟨rfl, h1⟩
    go_wp2
    go_ret
    exact ⟨by rw [hz.out]; rfl, h1⟩
  | true =>
    have hz : Hid (putLab (labL l) = putL l.length ++ putP (labL l)) := by show _ = _; unfold putLab; rw [hR, labL_len]; rfl
    have h8 : l.length ≤ 8 := by have := (rightLab_iff.1 hR).1; rwa [labL_len] at this
    have hU : U64 l.length := show l.length < _ by omega
    have hpl := putL_ten hU
    rw [hR] at C
    clear hR
    go_enter Tryd.func20, Tryd.ntmps20
    go_wp2_with fail
    refine C.mono ?_; rintro e w1 ⟨rfl, h1⟩
    clear C
    go_wp2_with fail
    refine (put_w l.length w1 hU).mono ?_; rintro e w2 ⟨rfl, h2⟩
    have e2 := h1.trans h2
    go_wp2
    go_loopw [3, 15] (fun s' i' wr => ∃ (k : Nat) (b : ByteArray), k ≤ l.length ∧ i' = .int .i64 k ∧ s' = .string b ∧ b.size ≤ 10 + k * 281474976702484 ∧ Ext w2 wr ∧ Hid (b.data.toList = putL l.length ++ putP ((labL l).take k))) (fun _ i' _ => l.length - (intOf i').toNat)
    case atStart => exact ⟨0, ⟨(putL l.length).toArray⟩, by omega, rfl, rfl, by rw [size_len]; exact hpl, Ext.refl _, by show _ = _; simp [putP]⟩
    case round =>
      obtain ⟨k, b, hk, rfl, rfl, hbs, hb, HB⟩ := hrel
      have er := e2.trans hb
      by_cases hlt : k < l.length
      · obtain ⟨bb, off, rfl, hbl, c0, c1⟩ := (hx.ext er).at hlt
        have hfk := hf _ (pairAt_mem hlt)
        have s1 := textB_size _ hfk.1
        have s2 := textB_size _ hfk.2
        have hst : Hid ((b ++ (textB (pairAt l k).1 ++ textB (pairAt l k).2)).data.toList = putL l.length ++ putP ((labL l).take (k + 1))) := by
          show _ = _
          rw [putP_step (by rw [labL_len]; exact hlt), labL_at l hlt, data_append, data_append, HB.out, List.append_assoc]
          rfl
        have C1 : Hid (∀ U, Ext (wr.alloc (.cells #[.string (pairAt l k).1, .string (pairAt l k).2] 29)) U → Calls Tryd.prog 56 #[.string (pairAt l k).1] U fun e w' => e = .returned (.string (textB (pairAt l k).1)) ∧ Ext U w') := fun U _ => puttext_w _ U (by omega)
        have C2 : Hid (∀ U, Ext (wr.alloc (.cells #[.string (pairAt l k).1, .string (pairAt l k).2] 29)) U → Calls Tryd.prog 56 #[.string (pairAt l k).2] U fun e w' => e = .returned (.string (textB (pairAt l k).2)) ∧ Ext U w') := fun U _ => puttext_w _ U (by omega)
        have hW : Ext w2 (wr.alloc (.cells #[.string (pairAt l k).1, .string (pairAt l k).2] 29)) := hb.trans ((Ext.refl _).alloc _)
        generalize textB (pairAt l k).1 = t1 at *
        generalize textB (pairAt l k).2 = t2 at *
        go_wp2_with fail
        refine Dm.wp_region_grow (by kernel_rfl) (by kernel_rfl) ?_
        repeat (go_big_quiet_step (first
          | (go_at_call 56; with_reducible exact Calls.quietE (C1.out _ (ext_grow _ _)))
          | (go_at_call 56; with_reducible exact Calls.quietE (C2.out _ (ext_grow _ _)))))
        refine wpQuiet_nil ?_
        intro U hU
        have hU' := hW.trans hU
        clear C1 C2
        go_wp2
        go_roundw
        case rel => exact ⟨k + 1, _, by omega, by go_num, rfl, by rw [ByteArray.size_append, ByteArray.size_append]; omega, hU', hst⟩
        case measure => simp [intOf]; omega
      · go_wp2
        go_ret
        obtain rfl : k = l.length := by omega
        have h := HB.out
        rw [← labL_len, List.take_length, labL_len, ← hz.out] at h
        exact ⟨by rw [← mk_bytes h]; rfl, er⟩

set_option maxHeartbeats 2000000 in
set_option maxRecDepth 100000 in
theorem ltext_w (l : List PairS) (v : Value) (w : World) (hm : l.length ≤ 35184372088832) (hf : FitP l) (hx : Pairs w v l) (ht : Tabs w) :
    Calls Tryd.prog 21 #[v] w fun e w' => e = .returned (.string ⟨(textLab (labL l)).toArray⟩) ∧ Ext w w' := by
  obtain ⟨q, cap, rfl, hcap, hcm⟩ := hx.shape
  have C := lright_w l _ w hm hf hx ht
  cases hR : rightLab (labL l) with
  | false =>
    have hz : Hid (textLab (labL l) = [63]) := by show _ = _; unfold textLab; rw [hR]; rfl
    rw [hR] at C
    clear hR
    go_enter Tryd.func21, Tryd.ntmps21
    go_wp2_with fail
    refine C.mono ?_; rintro e w1 ⟨rfl, h1⟩
    go_wp2
    go_ret
    exact ⟨by rw [hz.out]; rfl, h1⟩
  | true =>
    have hri := rightLab_iff.1 hR
    rw [labL_len] at hri
    have h8 : l.length ≤ 8 := hri.1
    have hz : Hid (textLab (labL l) = if l.length = 0 then [45] else Lib.join ((labL l).map showP) [44]) := by
      show _ = _
      unfold textLab
      rw [hR, if_pos rfl]
      by_cases h0 : l.length = 0
      · have : l = [] := List.length_eq_zero_iff.1 h0
        subst this; rfl
      · rw [if_neg h0, if_neg (fun h => h0 (by rw [← labL_len, h]; rfl))]
    have hn : ∀ k, k < l.length → (pairAt l k).1.size ≤ 32 ∧ (pairAt l k).2.size ≤ 32 := fun k hk => by
      have := hri.2 k hk
      unfold okLab at this
      simp only [Bool.and_eq_true] at this
      rw [labL_at l hk] at this
      exact ⟨by rw [size_len]; exact right_len this.1, by rw [size_len]; exact right_len this.2.1⟩
    rw [hR] at C
    clear hR hri
    replace hn := Lib.hid hn
    go_enter Tryd.func21, Tryd.ntmps21
    go_wp2_with fail
    refine C.mono ?_; rintro e w1 ⟨rfl, h1⟩
    clear C
    go_wp2
    go_loopw [3, 11] (fun r i' wr => ∃ k : Nat, k ≤ l.length ∧ i' = .int .i64 k ∧ Ext w1 wr ∧ wr.ownsRow w1.heap.size 9 1 r k (((l.take k).map showB).map .string)) (fun _ i' _ => l.length - (intOf i').toNat)
    case atStart => exact ⟨0, by omega, rfl, Ext.refl _, World.ownsRow_nil _ _ _ _⟩
    case round =>
      obtain ⟨k, hk, rfl, hb, ho⟩ := hrel
      have er := h1.trans hb
      by_cases hlt : k < l.length
      · obtain ⟨bb, off, rfl, hbl, c0, c1⟩ := (hx.ext er).at hlt
        have s12 := hn.out k hlt
        have hsh : Hid (showB (pairAt l k) = ((pairAt l k).1 ++ (⟨#[61]⟩ : ByteArray)) ++ (pairAt l k).2) := by show _ = _; rfl
        have hA : Ext w1 (wr.alloc (.cells #[.string (pairAt l k).1, .string (pairAt l k).2] 29)) := hb.trans ((Ext.refl wr).alloc _)
        have hoA := Ext.row ho ((Ext.refl wr).alloc (.cells #[.string (pairAt l k).1, .string (pairAt l k).2] 29))
        generalize hWe : wr.alloc (.cells #[.string (pairAt l k).1, .string (pairAt l k).2] 29) = WA at hA hoA
        have ho4 := Ext.row hoA ((Ext.refl WA).alloc (.cells #[.string (((pairAt l k).1 ++ (⟨#[61]⟩ : ByteArray)) ++ (pairAt l k).2)] 9))
        have hb4 := hA.trans ((Ext.refl WA).alloc (.cells #[.string (((pairAt l k).1 ++ (⟨#[61]⟩ : ByteArray)) ++ (pairAt l k).2)] 9))
        have hl4 := Sl.lit WA 9 1 1 #[.string (((pairAt l k).1 ++ (⟨#[61]⟩ : ByteArray)) ++ (pairAt l k).2)] rfl (by simp [maxLen])
        subst hWe
        simp only [World.size_alloc] at hl4
        clear ho hoA hA
        go_wp2_with (at_builtin; refine wpList_appE rfl _ _ Tryd.slStr rfl hb4 rfl ho4 rfl hl4 (strs_one [((pairAt l k).1 ++ (⟨#[61]⟩ : ByteArray)) ++ (pairAt l k).2]) (by omega) ?_; intro v5 w5 ho5 hb5 _)
        go_roundw
        case rel => exact ⟨k + 1, by omega, by go_num, hb5, by rw [take_snocP hlt, List.map_append, List.map_append]; exact ho5⟩
        case measure => simp [intOf]; omega
      · obtain rfl : k = l.length := by omega
        rw [List.take_length] at ho
        have hS : Strs wr _ (l.map showB) := Strs.of_row ho (by simp)
        obtain ⟨q2, cap2, rfl, hc2, hm2⟩ := hS.shape
        have hll : (l.map showB).length = l.length := List.length_map _
        rw [hll] at hc2
        by_cases h0 : l.length = 0
        · have hlb : ((l.length : Int) == 0) = true := by rw [beq_iff_eq]; omega
          have hz' : Hid (textLab (labL l) = [45]) := by show _ = _; rw [hz.out, if_pos h0]
          rw [hll]
          clear h0
          go_wp2
          go_ret
          exact ⟨by rw [hz'.out]; rfl, er⟩
        · have hlb : ((l.length : Int) == 0) = false := by rw [beq_eq_false_iff_ne]; omega
          have hz' : Hid (textLab (labL l) = Lib.join ((labL l).map showP) [44]) := by show _ = _; rw [hz.out, if_neg h0]
          obtain ⟨bb, off, rfl, hbl, _⟩ := hS.at (k := 0) (by rw [hll]; omega)
          have hjl : (Lib.join ((l.map showB).map (·.data.toList)) [44]).length ≤ 140737488355328 := by
            have : ∀ (L : List Bs), (∀ x ∈ L, x.length ≤ 100) → (Lib.join L [44]).length ≤ 101 * L.length := by
              intro L hL
              induction L with
              | nil => simp [Lib.join_nil]
              | cons x L ih =>
                have h1 := hL x (by simp)
                have h2 := ih (fun y hy => hL y (List.mem_cons_of_mem _ hy))
                cases L with
                | nil => rw [Lib.join_one]; simp; omega
                | cons y L =>
                  rw [Lib.join_cons] at h2 ⊢
                  simp only [Lib.joinTail, List.map_cons, List.flatten_cons, List.length_append, List.length_cons, List.length_nil] at *
                  omega
            have := this ((l.map showB).map (·.data.toList)) (by
              intro x hx
              obtain ⟨y, hy, rfl⟩ := List.mem_map.1 hx
              obtain ⟨p, hp, rfl⟩ := List.mem_map.1 hy
              obtain ⟨k, hk, rfl⟩ := List.getElem_of_mem hp
              have := hn.out k hk
              rw [show pairAt l k = l[k] by simp [pairAt, hk]] at this
              rw [← size_len]
              unfold showB
              rw [ByteArray.size_append, ByteArray.size_append]
              show l[k].1.size + 1 + l[k].2.size ≤ 100
              omega)
            rw [List.length_map, List.length_map] at this
            omega
          have C := Tryd.strings_Join bb off cap2 (l.map showB) ⟨#[44]⟩ wr (fun j x hj => by
            obtain ⟨hjl, _⟩ := List.getElem?_eq_some_iff.1 hj
            have := (hS.cells hjl).2
            rw [this]
            simp [strAt, hj]) hbl (by rw [hll]; omega) (by rw [hll]; exact hc2) hjl
          rw [showB_all, hll] at C
          replace C : Calls Tryd.prog 57 #[.slice (some ⟨bb, off, none⟩) l.length cap2, .string ⟨#[44]⟩] wr fun e w' => e = .returned (.string ⟨(textLab (labL l)).toArray⟩) ∧ Below wr.heap.size wr w' := by rw [hz'.out]; exact C
          rw [hll]
          clear h0 hjl hS ho
          go_wp2_with fail
          refine C.mono ?_; rintro e w3 ⟨rfl, h3⟩
          go_wp2
          go_ret
          exact ⟨rfl, er.trans h3⟩

end Go.Proofs.YtbkemhheombfcaaDoor
