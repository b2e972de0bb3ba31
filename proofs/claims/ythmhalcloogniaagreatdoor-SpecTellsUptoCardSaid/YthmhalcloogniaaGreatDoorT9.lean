/- Texts one behind the other: Chapter 5: the walk of Parse; Chapter 5: the walks of the reader's number and text; Chapter 5: the walk of the reader's term; Chapter 5: the walk of the deferred function of Get; Chapter 5: what is got of a selector, in plain terms; what Get lays. -/
import Derived.Test.YthmhalcloogniaaGreatDoorT25
import Derived.Test.YthmhalcloogniaaGreatDoorT10
import Derived.Recover
namespace Go.Dm
open Go Go.RowKit
theorem bytesOf_size' {vs : List ByteArray} {c : UInt8} {t : Bs} (h : bytesOf vs = splitC c t) : ∀ k, k < vs.length → (strAt vs k).size ≤ t.length := by
  intro k hk
  rw [size_len]
  refine mem_splitC_len (c := c) ?_
  rw [← h]
  exact List.mem_map_of_mem (strAt_mem hk)
theorem splitC_count (c : UInt8) : ∀ l : Bs, (splitC c l).length ≤ l.length + 1
  | [] => by simp [splitC]
  | a :: l => by
    have := splitC_count c l
    unfold splitC
    split
    · simp only [List.length_cons]; omega
    · split
      · simp
      · rename_i h; rw [h] at this; simp only [List.length_cons] at *; omega
theorem termL_fit (x : ByteArray) : (mkT (termL x.data.toList)).1.size ≤ x.size ∧ (mkT (termL x.data.toList)).2.2.length ≤ x.size + 1 ∧ ∀ y ∈ (mkT (termL x.data.toList)).2.2, y.size ≤ x.size := by
  have hx := size_len x
  have hc := cutC_len 61 x.data.toList
  have hv : ∀ y ∈ (splitC 124 (cutC 61 x.data.toList).2.1).map (fun x => (⟨x.toArray⟩ : ByteArray)), y.size ≤ x.size := by
    intro y hy
    obtain ⟨z, hz, rfl⟩ := List.mem_map.1 hy
    rw [size_len]
    show z.length ≤ _
    have := mem_splitC_len hz
    omega
  have hn := splitC_count 124 (cutC 61 x.data.toList).2.1
  unfold termL mkT
  split
  · refine ⟨?_, by simp, by simp⟩
    show (x.data.toList.drop 1).length ≤ x.size
    rw [List.length_drop]; omega
  · split
    · refine ⟨?_, by simp, by simp⟩
      show x.data.toList.length ≤ x.size
      omega
    · split
      · refine ⟨?_, (by show (List.map (fun x : Bs => (⟨x.toArray⟩ : ByteArray)) (splitC 124 (cutC 61 x.data.toList).2.1)).length ≤ x.size + 1; rw [List.length_map]; omega), hv⟩
        show (cutC 61 x.data.toList).1.dropLast.length ≤ x.size
        rw [List.length_dropLast]; omega
      · refine ⟨?_, (by show (List.map (fun x : Bs => (⟨x.toArray⟩ : ByteArray)) (splitC 124 (cutC 61 x.data.toList).2.1)).length ≤ x.size + 1; rw [List.length_map]; omega), hv⟩
        show (cutC 61 x.data.toList).1.length ≤ x.size
        omega
end Go.Dm
namespace Go.Proofs.YthmhalcloogniaaGreatDoor
open Go.RowKit Go.Dm

theorem Tryz.slTerm : SlT Tryz.prog 25 115 3 48 := SlT.mk' Tryz.underlying25 (by kernel_rfl) (by decide) (by decide)

set_option maxHeartbeats 2000000 in
set_option maxRecDepth 100000 in
theorem sparseO_w (t : ByteArray) (w : World) (hs : t.size < 2147483640) (ht : Vars w) :
    Calls Tryz.prog 44 #[.string t] w fun e w' => ∃ r R b, e = .returned (.tuple #[r, .bool b]) ∧ Terms w' r R ∧ (R.map rowT, b) = parseS t.data.toList ∧ FitR R ∧ R.length ≤ 4 ∧ OwnT w.heap.size r R ∧ Ext w w' := by
  by_cases h45 : t.data.toList = [45]
  · obtain rfl : t = ⟨#[45]⟩ := mk_bytes h45
    clear h45
    go_enter Tryz.func44, Tryz.ntmps44
    go_wp2
    go_ret2
    exact ⟨_, [], true, rfl, Terms.nil _, rfl, (fun r hr => by cases hr), by simp, OwnT.nil _, Ext.refl _⟩
  · have hXt : (t.toList == [45]) = false := by rw [ByteArray.toList_eq, beq_eq_false_iff_ne]; exact h45
    have hXt' : ¬ t.toList = [45] := by rw [ByteArray.toList_eq]; exact h45
    have C := split_w t 44 w (by omega) ht
    replace h45 := Lib.hid h45
    go_enter Tryz.func44, Tryz.ntmps44
    go_wp2_with fail
    refine C.mono ?_; rintro e W ⟨ss, rfl, hx, hsp, hl, hal⟩
    clear C
    have hz := Lib.hid (bytesOf_size' hsp)
    have hmap : Hid (ss.map (fun x => mkT (termL x.data.toList)) = termsL t.data.toList) := by
      show _ = _
      unfold termsL
      rw [← hsp, bytesOf, List.map_map]; rfl
    have hfit : Hid (∀ k, k < ss.length → FitT (mkT (termL (strAt ss k).data.toList))) := fun k hk => by
      obtain ⟨f1, f2, f3⟩ := termL_fit (strAt ss k)
      have := hz.out k hk
      rw [← size_len] at this
      exact ⟨by omega, by omega, fun y hy => by have := f3 y hy; omega⟩
    clear hsp
    go_wp2
    go_loopw [4, 12] (fun v i' wr => ∃ (k : Nat) (R : List RowS), k ≤ ss.length ∧ i' = .int .i64 k ∧ Ext W wr ∧ TRow 115 W.heap.size wr v k R ∧ Hid (R.map rowT = (ss.take k).map (fun x => mkT (termL x.data.toList))) ∧ Hid (∀ x ∈ R, ∀ c, x.2.2.1.ownBlock = some c → W.heap.size ≤ c)) (fun _ i' _ => ss.length - (intOf i').toNat)
    case atStart => exact ⟨0, [], by omega, rfl, Ext.refl _, TRow.nil _ _ _, rfl, (fun x hx => by cases hx)⟩
    case round =>
      obtain ⟨k, R, hk, rfl, hb, ho, hR, hQ⟩ := hrel
      have er := hal.trans hb
      by_cases hlt : k < ss.length
      · obtain ⟨hbl, c0⟩ := (hx.ext hb).cells hlt
        rw [Nat.zero_add] at c0
        have hzk := hz.out k hlt
        have C := termof_w (strAt ss k) wr (by rw [← size_len] at hzk; omega) (ht.ext er)
        clear hzk
        go_wp2_with fail
        refine C.mono ?_; rintro e w2 ⟨r, rfl, hr, hv, hbk, h2⟩
        clear C
        have hap := ho.apart_new hbk
        have ho2 := ho.ext h2
        obtain ⟨k1, n1, v1, vals1⟩ := r
        have hv : Strs w2 v1 vals1 := hv
        have hsn : Hid ((R ++ [(k1, n1, v1, vals1)]).map rowT = (ss.take (k + 1)).map (fun x => mkT (termL x.data.toList))) := by
          show _ = _
          rw [List.map_append, hR.out, List.take_succ_eq_append_getElem hlt, List.map_append]
          simp only [List.map_cons, List.map_nil, hr]
          simp [strAt, hlt]
        have hQ' : Hid (∀ x ∈ R ++ [(k1, n1, v1, vals1)], ∀ c, x.2.2.1.ownBlock = some c → W.heap.size ≤ c) := fun x hx c e => by
          rcases List.mem_append.1 hx with hx | hx
          · exact hQ.out x hx c e
          · rw [List.mem_singleton.1 hx] at e
            exact Nat.le_trans hb.size (hbk c e)
        obtain ⟨q3, cap3, rfl, _, _⟩ := hv.shape
        have ha4 := (Ext.refl w2).alloc (.cells #[.string k1, .bool n1, .slice q3 vals1.length cap3] 115)
        have hb4 := (hb.trans h2).trans ha4
        have ho4 := ho2.ext ha4
        have hv4 := hv.ext ha4
        have hl4 := Sl.lit w2 115 3 1 #[.string k1, .bool n1, .slice q3 vals1.length cap3] rfl (by simp [maxLen])
        have hap4 : (k1, n1, Value.slice q3 vals1.length cap3, vals1).2.2.2 = [] ∨ Apart (k1, n1, Value.slice q3 vals1.length cap3, vals1).2.2.1 _ := Or.inr hap
        replace hap4 := Lib.hid hap4
        clear ho ho2 hr hR hap hbk
        go_wp2_with (at_builtin; refine wpList_appT rfl _ _ Tryz.slTerm rfl hb4 rfl ho4 (r := (k1, n1, .slice q3 vals1.length cap3, vals1)) rfl hl4 hv4 hap4.out (by omega) ?_; intro v5 w5 ho5 hb5 _)
        go_roundw
        case rel => exact ⟨k + 1, R ++ [(k1, n1, .slice q3 vals1.length cap3, vals1)], by omega, by go_num, hb5, ho5, hsn, hQ'⟩
        case measure => simp [intOf]; omega
      · obtain rfl : k = ss.length := by omega
        have hRe := hR.out
        rw [List.take_length] at hRe
        have hRl : R.length = ss.length := by have := congrArg List.length hRe; simpa using this
        have hF : FitR R := fun r hr => by
          have : rowT r ∈ ss.map (fun x => mkT (termL x.data.toList)) := by rw [← hRe]; exact List.mem_map_of_mem hr
          obtain ⟨x, hx, e⟩ := List.mem_map.1 this
          obtain ⟨j, hj, e2⟩ := List.getElem_of_mem hx
          have h2 : strAt ss j = x := by simp [strAt, hj, e2]
          have := hfit.out j hj
          rw [h2] at this
          rw [← e]; exact this
        have hT := ho.terms hRl.symm
        have hRt : Hid (R.map rowT = termsL t.data.toList) := hRe.trans hmap.out
        have CR := sright_w R _ wr (by rw [hRl]; omega) hF hT (ht.tabs.ext er)
        have CT := fun w3 (h3 : Ext wr w3) => stext_w R _ w3 (by rw [hRl]; omega) hF (hT.ext h3) (ht.tabs.ext (er.trans h3))
        rw [hRt.out] at CR CT
        have hOw : OwnT w.heap.size _ R := ⟨fun c e => by have := (ho.lt e).1; have := hal.size; omega, fun x hx c e => by have := hQ.out x hx c e; have := hal.size; omega⟩
        clear hRe hR hfit hmap hz ho hQ
        cases hRi : rightS (termsL t.data.toList) with
        | false =>
          have hz' := Lib.hid (parseS_bad h45.out hRi)
          rw [hRi] at CR
          clear hRi CT
          go_wp2_with fail
          refine CR.mono ?_; rintro e w3 ⟨rfl, h3⟩
          go_wp2
          go_ret2
          exact ⟨_, [], false, rfl, Terms.nil _, by rw [hz'.out]; rfl, (fun r hr => by cases hr), by simp, OwnT.nil _, er.trans h3⟩
        | true =>
          have h4 := (rightS_iff.1 hRi).1
          rw [← hRt.out, List.length_map] at h4
          rw [hRi] at CR
          by_cases hq : textS (termsL t.data.toList) = t.data.toList
          · have hz' := Lib.hid (parseS_good h45.out hRi hq)
            have hqb : ((⟨(textS (termsL t.data.toList)).toArray⟩ : ByteArray).toList == t.toList) = true := by rw [ByteArray.toList_eq, ByteArray.toList_eq, beq_iff_eq]; exact hq
            have hqb' : (⟨(textS (termsL t.data.toList)).toArray⟩ : ByteArray).toList = t.toList := by rw [ByteArray.toList_eq, ByteArray.toList_eq]; exact hq
            clear hRi hq
            generalize (⟨(textS (termsL t.data.toList)).toArray⟩ : ByteArray) = T at *
            replace CT := Lib.hid CT
            go_wp2_with fail
            refine CR.mono ?_; rintro e w3 ⟨rfl, h3⟩
            go_wp2_with fail
            refine (CT.out w3 h3).mono ?_; rintro e w4 ⟨rfl, h4⟩
            go_wp2
            go_ret2
            exact ⟨_, R, true, rfl, (hT.ext h3).ext h4, by rw [hz'.out, hRt.out], hF, by assumption, hOw, er.trans (h3.trans h4)⟩
          · have hz' := Lib.hid (parseS_other h45.out hq)
            have hqb : ((⟨(textS (termsL t.data.toList)).toArray⟩ : ByteArray).toList == t.toList) = false := by rw [ByteArray.toList_eq, ByteArray.toList_eq, beq_eq_false_iff_ne]; exact hq
            have hqb' : ¬ (⟨(textS (termsL t.data.toList)).toArray⟩ : ByteArray).toList = t.toList := by rw [ByteArray.toList_eq, ByteArray.toList_eq]; exact hq
            clear hRi hq
            generalize (⟨(textS (termsL t.data.toList)).toArray⟩ : ByteArray) = T at *
            replace CT := Lib.hid CT
            go_wp2_with fail
            refine CR.mono ?_; rintro e w3 ⟨rfl, h3⟩
            go_wp2_with fail
            refine (CT.out w3 h3).mono ?_; rintro e w4 ⟨rfl, h4⟩
            go_wp2
            go_ret2
            exact ⟨_, [], false, rfl, Terms.nil _, by rw [hz'.out]; rfl, (fun r hr => by cases hr), by simp, OwnT.nil _, er.trans (h3.trans h4)⟩

end Go.Proofs.YthmhalcloogniaaGreatDoor

namespace Go.Dm
open Go Go.RowKit
theorem Ext.grownBy {w w' : World} (h : Ext w w') (r : Option Nat) : w.grownBy w' r := ⟨h.os, h.tape, h.output, h.size, fun k hk _ => h.block k hk⟩
theorem grown_trans {w w' w'' : World} {r : Option Nat} (h : w.grownBy w' r) (h' : w'.grownBy w'' r) : w.grownBy w'' r :=
  ⟨h'.os.trans h.os, h'.tape.trans h.tape, h'.output.trans h.output, Nat.le_trans h.size h'.size, fun k hk hr => (h'.block k (Nat.lt_of_lt_of_le hk h.size) hr).trans (h.block k hk hr)⟩
theorem grown_set (w : World) (b i : Nat) (v : Value) : w.grownBy (w.setCell ⟨b, i, none⟩ v) (some b) := by
  refine ⟨rfl, rfl, rfl, by rw [World.size_setCell]; exact Nat.le_refl _, fun k _ hr => ?_⟩
  simp only [World.setCell, Array.getElem?_modify]
  rw [if_neg (fun e => hr (by rw [e]))]
theorem grown_set_new {w w' : World} {r : Option Nat} (h : w.grownBy w' r) {c : Nat} (hc : w.heap.size ≤ c) (i : Nat) (v : Value) : w.grownBy (w'.setCell ⟨c, i, none⟩ v) r := by
  refine ⟨h.os, h.tape, h.output, by rw [World.size_setCell]; exact h.size, fun k hk hr => ?_⟩
  rw [← h.block k hk hr]
  simp only [World.setCell, Array.getElem?_modify]
  rw [if_neg (fun e => by omega)]
theorem grown_new {w w' w'' : World} {r q : Option Nat} (h : w.grownBy w' r) (h' : w'.grownBy w'' q) (hq : ∀ c, q = some c → w.heap.size ≤ c) : w.grownBy w'' r := by
  refine ⟨h'.os.trans h.os, h'.tape.trans h.tape, h'.output.trans h.output, Nat.le_trans h.size h'.size, fun k hk hr => ?_⟩
  rw [← h.block k hk hr]
  exact h'.block k (Nat.lt_of_lt_of_le hk h.size) (fun e => by have := hq k e.symm; omega)
theorem Cell2.far {b c i : Nat} {x y : Value} {w : World} (h : Cell2 b x y w) (hc : c ≠ b) (u : Value) : Cell2 b x y (w.setCell ⟨c, i, none⟩ u) :=
  ⟨by rw [World.size_setCell]; exact h.lt, cell_set_far h.c0 hc, cell_set_far h.c1 hc, by rw [World.frozen?_setCell]; exact h.f0, by rw [World.frozen?_setCell]; exact h.f1⟩
theorem Cell2.grown {b : Nat} {x y : Value} {w w' : World} {q : Option Nat} (h : Cell2 b x y w) (hg : w.grownBy w' q) (hb : q ≠ some b) : Cell2 b x y w' := by
  have hc : ∀ i, w'.cell? ⟨b, i, none⟩ = w.cell? ⟨b, i, none⟩ := fun i => World.cell?_of_block (a := ⟨b, i, none⟩) (hg.block b h.lt (fun e => hb e.symm))
  have hf : ∀ i, w'.frozen? ⟨b, i, none⟩ = w.frozen? ⟨b, i, none⟩ := fun i => World.frozen?_of_block (a := ⟨b, i, none⟩) (hg.block b h.lt (fun e => hb e.symm))
  exact ⟨Nat.lt_of_lt_of_le h.lt hg.size, by rw [hc]; exact h.c0, by rw [hc]; exact h.c1, by rw [hf]; exact h.f0, by rw [hf]; exact h.f1⟩
theorem Cell3.grown {b : Nat} {x y z : Value} {w w' : World} {q : Option Nat} (h : Cell3 b x y z w) (hg : w.grownBy w' q) (hb : q ≠ some b) : Cell3 b x y z w' := by
  have hc : ∀ i, w'.cell? ⟨b, i, none⟩ = w.cell? ⟨b, i, none⟩ := fun i => World.cell?_of_block (a := ⟨b, i, none⟩) (hg.block b h.lt (fun e => hb e.symm))
  have hf : ∀ i, w'.frozen? ⟨b, i, none⟩ = w.frozen? ⟨b, i, none⟩ := fun i => World.frozen?_of_block (a := ⟨b, i, none⟩) (hg.block b h.lt (fun e => hb e.symm))
  exact ⟨Nat.lt_of_lt_of_le h.lt hg.size, by rw [hc]; exact h.c0, by rw [hc]; exact h.c1, by rw [hc]; exact h.c2, by rw [hf]; exact h.f0, by rw [hf]; exact h.f1, by rw [hf]; exact h.f2⟩
theorem row_shape {w : World} {base e size n : Nat} {v : Value} {xs : List Value} (h : w.ownsRow base e size v n xs) : ∃ p cap, v = .slice p n cap := by
  obtain ⟨_, h⟩ := h
  rcases h with ⟨rfl, rfl⟩ | ⟨g, cap, cur, hv, _⟩
  · exact ⟨none, 0, rfl⟩
  · exact ⟨_, _, hv⟩
theorem some_ne {b c : Nat} (h : b ≠ c) : some b ≠ some c := fun e => h (by injection e)
theorem grown_row {w w' : World} {q : Option Nat} {base e size n : Nat} {v : Value} {xs : List Value} (h : w.ownsRow base e size v n xs) (hg : w.grownBy w' q) (hq : ∀ c, q = some c → c < base) : w'.ownsRow base e size v n xs := by
  obtain ⟨hl, h⟩ := h
  refine ⟨hl, ?_⟩
  rcases h with h | ⟨g, cap, cur, hv, hb, hgg, r⟩
  · exact Or.inl h
  · exact Or.inr ⟨g, cap, cur, hv, hb, by rw [hg.block g (Array.getElem?_eq_some_iff.1 hgg).1 (fun e => by have := hq g e.symm; omega)]; exact hgg, r⟩
end Go.Dm
namespace Go.Proofs.YthmhalcloogniaaGreatDoor
open Go.RowKit Go.Dm

/-- What a reader panics with. -/
def badV : Value := .iface 126 (.agg #[])

set_option maxHeartbeats 1000000 in
theorem number_yes (b : Nat) (s : ByteArray) (p n : Int) (u most : Nat) (w : World) (hs : s.size ≤ 281474976710656) (K : Cell2 b (.string s) (.int .i64 p) w) (hu : u ≤ most) (hm : most ≤ 1000) (hg : getI s.data.toList p = (u, n, true)) :
    Calls Tryz.prog 81 #[.pointer (some ⟨b, 0, none⟩), .int .u64 most] w fun e w' => e = .returned (.int .i64 u) ∧ Cell2 b (.string s) (.int .i64 n) w' ∧ w.grownBy w' (some b) := by
  have C : Hid (∀ U, Calls Tryz.prog 35 #[.string s, .int .i64 p] U fun e w' => e = .returned (.tuple #[.int .u64 u, .int .i64 n, .bool true]) ∧ Ext U w') := fun U => by
    have := wget_w s p U hs
    rw [hg] at this
    exact this
  clear hg
  have k0 := K.c0
  have k1 := K.c1
  have hlt := K.lt
  go_enter Tryz.func81, Tryz.ntmps81
  go_wp2_with fail
  refine Dm.wp_region_grow (by kernel_rfl) (by kernel_rfl) ?_
  repeat (go_big_quiet_step (first
    | (go_at_call 35; with_reducible exact Calls.quietE (C.out _))))
  refine wpQuiet_nil ?_
  intro U hU
  have KU := K.ext hU
  have KF := KU.set1 (.int .i64 n)
  have hG := grown_trans (Ext.grownBy hU (some b)) (grown_set U b 1 (.int .i64 n))
  obtain ⟨u0, u1, u2, u3, u4⟩ := KU
  clear C k0 k1
  go_wp2
  go_ret
  exact ⟨rfl, KF, hG⟩

set_option maxHeartbeats 1000000 in
theorem number_no (b : Nat) (s : ByteArray) (p : Int) (most : Nat) (w : World) (hs : s.size ≤ 281474976710656) (K : Cell2 b (.string s) (.int .i64 p) w) (_hm : most ≤ 1000) (hg : (getI s.data.toList p).2.2 = true → most < (getI s.data.toList p).1) :
    Calls Tryz.prog 81 #[.pointer (some ⟨b, 0, none⟩), .int .u64 most] w fun e w' => e = .panicked [{ v := badV, recovered := false }] ∧ w.grownBy w' (some b) := by
  have C := fun U => wget_w s p U hs
  generalize (getI s.data.toList p).1 = u at *
  generalize (getI s.data.toList p).2.1 = n at *
  generalize (getI s.data.toList p).2.2 = o at *
  have C : Hid (∀ U, Calls Tryz.prog 35 #[.string s, .int .i64 p] U fun e w' => e = .returned (.tuple #[.int .u64 u, .int .i64 n, .bool o]) ∧ Ext U w') := C
  have k0 := K.c0
  have k1 := K.c1
  have hlt := K.lt
  cases o with
  | false =>
    clear hg
    go_enter Tryz.func81, Tryz.ntmps81
    go_wp2_with fail
    refine Dm.wp_region_grow (by kernel_rfl) (by kernel_rfl) ?_
    repeat (go_big_quiet_step (first
      | (go_at_call 35; with_reducible exact Calls.quietE (C.out _))))
    refine wpQuiet_nil ?_
    intro U hU
    clear C k0 k1
    go_wp2
    exact ⟨rfl, rfl, Ext.grownBy hU (some b)⟩
  | true =>
    replace hg := hg rfl
    go_enter Tryz.func81, Tryz.ntmps81
    go_wp2_with fail
    refine Dm.wp_region_grow (by kernel_rfl) (by kernel_rfl) ?_
    repeat (go_big_quiet_step (first
      | (go_at_call 35; with_reducible exact Calls.quietE (C.out _))))
    refine wpQuiet_nil ?_
    intro U hU
    clear C k0 k1
    go_wp2
    exact ⟨rfl, rfl, Ext.grownBy hU (some b)⟩

set_option maxHeartbeats 1000000 in
theorem rtext_yes (b : Nat) (s : ByteArray) (p n : Int) (t : Bs) (w : World) (hs : s.size ≤ 281474976710656) (K : Cell2 b (.string s) (.int .i64 p) w) (hg : atI (getTextL 32) [] s.data.toList p = (t, n, true)) :
    Calls Tryz.prog 110 #[.pointer (some ⟨b, 0, none⟩)] w fun e w' => e = .returned (.string ⟨t.toArray⟩) ∧ Cell2 b (.string s) (.int .i64 n) w' ∧ w.grownBy w' (some b) := by
  have C : Hid (∀ U, Calls Tryz.prog 33 #[.string s, .int .i64 p, .int .i64 32] U fun e w' => e = .returned (.tuple #[.string ⟨t.toArray⟩, .int .i64 n, .bool true]) ∧ Ext U w') := fun U => by
    have := wgettext_w s p 32 U hs (by omega)
    rw [hg] at this
    exact this
  clear hg
  have k0 := K.c0
  have k1 := K.c1
  have hlt := K.lt
  generalize (⟨t.toArray⟩ : ByteArray) = T at *
  go_enter Tryz.func110, Tryz.ntmps110
  go_wp2_with fail
  refine Dm.wp_region_grow (by kernel_rfl) (by kernel_rfl) ?_
  repeat (go_big_quiet_step (first
    | (go_at_call 33; with_reducible exact Calls.quietE (C.out _))))
  refine wpQuiet_nil ?_
  intro U hU
  have KU := K.ext hU
  have KF := KU.set1 (.int .i64 n)
  have hG := grown_trans (Ext.grownBy hU (some b)) (grown_set U b 1 (.int .i64 n))
  obtain ⟨u0, u1, u2, u3, u4⟩ := KU
  clear C k0 k1
  go_wp2
  go_ret
  exact ⟨rfl, KF, hG⟩

set_option maxHeartbeats 1000000 in
theorem rtext_no (b : Nat) (s : ByteArray) (p : Int) (w : World) (hs : s.size ≤ 281474976710656) (K : Cell2 b (.string s) (.int .i64 p) w) (hg : (atI (getTextL 32) [] s.data.toList p).2.2 = false) :
    Calls Tryz.prog 110 #[.pointer (some ⟨b, 0, none⟩)] w fun e w' => e = .panicked [{ v := badV, recovered := false }] ∧ w.grownBy w' (some b) := by
  have C := fun U => wgettext_w s p 32 U hs (by omega)
  generalize (atI (getTextL 32) [] s.data.toList p).1 = t at *
  generalize (atI (getTextL 32) [] s.data.toList p).2.1 = n at *
  rw [hg] at C
  clear hg
  generalize (⟨t.toArray⟩ : ByteArray) = T at *
  have C : Hid (∀ U, Calls Tryz.prog 33 #[.string s, .int .i64 p, .int .i64 32] U fun e w' => e = .returned (.tuple #[.string T, .int .i64 n, .bool false]) ∧ Ext U w') := C
  have k0 := K.c0
  have k1 := K.c1
  have hlt := K.lt
  go_enter Tryz.func110, Tryz.ntmps110
  go_wp2_with fail
  refine Dm.wp_region_grow (by kernel_rfl) (by kernel_rfl) ?_
  repeat (go_big_quiet_step (first
    | (go_at_call 33; with_reducible exact Calls.quietE (C.out _))))
  refine wpQuiet_nil ?_
  intro U hU
  clear C k0 k1
  go_wp2
  exact ⟨rfl, rfl, Ext.grownBy hU (some b)⟩

end Go.Proofs.YthmhalcloogniaaGreatDoor

namespace Go.Dm
open Go Go.RowKit

/-- The term that stands first. -/
def getTermL (l : Bs) : Option ((Bs × Bool × List Bs) × Nat) :=
  match getTextL 32 l with
  | none => none
  | some (k, n) => match getL (l.drop n) with
    | none => none
    | some (u, m) => if u ≤ 9 then (match readsL (getTextL 32) l (n + m) (u / 2) with
      | none => none
      | some (vs, r) => some ((k, u % 2 == 1, vs), r)) else none
theorem getTermL_no1 {l : Bs} (h : getTextL 32 l = none) : getTermL l = none := by unfold getTermL; rw [h]
theorem getTermL_no2 {l k : Bs} {n : Nat} (h : getTextL 32 l = some (k, n)) (h2 : getL (l.drop n) = none) : getTermL l = none := by unfold getTermL; rw [h]; simp only; rw [h2]
theorem getTermL_mid {l k : Bs} {n u m : Nat} (h : getTextL 32 l = some (k, n)) (h2 : getL (l.drop n) = some (u, m)) : getTermL l = if u ≤ 9 then (match readsL (getTextL 32) l (n + m) (u / 2) with | none => none | some (vs, r) => some ((k, u % 2 == 1, vs), r)) else none := by unfold getTermL; rw [h]; simp only; rw [h2]
theorem atI_pos {α : Type} {g : Bs → Option (α × Nat)} {d : α} {l : Bs} {p : Nat} (h0 : g [] = none) : atI g d l (p : Int) = match g (l.drop p) with | some (u, m) => (u, (p : Int) + (m : Int), true) | none => (d, 0, false) := by
  have := atI_drop (d := d) (l := l) (q := p) (n := 0) h0
  simp only [Int.natCast_zero, Int.add_zero, Nat.add_zero] at this
  rw [this]
  cases g (l.drop p) <;> rfl
theorem getL_nil : getL [] = none := rfl
theorem strs_snoc (vs : List ByteArray) (x : ByteArray) : (vs ++ [x]).map Value.string = vs.map Value.string ++ [.string x] := List.map_append
theorem readsL_succ {α : Type} {g : Bs → Option (α × Nat)} {l : Bs} {q k r : Nat} {xs : List α} (h : readsL g l q k = some (xs, r)) : readsL g l q (k + 1) = match g (l.drop r) with | some (x, n) => some (xs ++ [x], r + n) | none => none := by
  rw [readsL, h]
  rfl
end Go.Dm
namespace Go.Proofs.YthmhalcloogniaaGreatDoor
open Go.RowKit Go.Dm

set_option maxHeartbeats 2000000 in
set_option maxRecDepth 100000 in
theorem rterm_w (b : Nat) (s : ByteArray) (p : Nat) (w : World) (hs : s.size ≤ 281474976710656) (K : Cell2 b (.string s) (.int .i64 p) w) :
    Calls Tryz.prog 82 #[.pointer (some ⟨b, 0, none⟩)] w fun e w' => w.grownBy w' (some b) ∧
      ((∃ (T : Bs × Bool × List Bs) (r : Nat) (row : RowS), getTermL (s.data.toList.drop p) = some (T, r) ∧ e = .returned (.agg #[.string row.1, .bool row.2.1, row.2.2.1]) ∧ rowT row = mkT T ∧ Strs w' row.2.2.1 row.2.2.2 ∧ (∀ c, row.2.2.1.ownBlock = some c → w.heap.size ≤ c) ∧ Cell2 b (.string s) (.int .i64 ((p + r : Nat) : Int)) w') ∨
       (getTermL (s.data.toList.drop p) = none ∧ e = .panicked [{ v := badV, recovered := false }])) := by
  have hlt := K.lt
  have hW : Ext w (w.alloc (.cells #[.string ⟨#[]⟩, .bool false, .slice none 0 0] 115)) := (Ext.refl _).alloc _
  have R0 := Cell3.new w (.string ⟨#[]⟩) (.bool false) (.slice none 0 0) 115
  have K1 := K.ext hW
  have A1 : atI (getTextL 32) [] s.data.toList (p : Int) = _ := atI_pos (getTextL_nil 32)
  cases hT : getTextL 32 (s.data.toList.drop p) with
  | none =>
    have hz := Lib.hid (getTermL_no1 hT)
    rw [hT] at A1
    have C := rtext_no b s p _ hs K1 (by rw [A1])
    clear A1 hT
    go_enter Tryz.func82, Tryz.ntmps82
    go_wp2_with fail
    refine C.mono ?_; rintro e w1 ⟨rfl, h1⟩
    exact ⟨rfl, grown_trans (Ext.grownBy hW _) h1, Or.inr ⟨hz.out, rfl⟩⟩
  | some x =>
    obtain ⟨k, n⟩ := x
    rw [hT] at A1
    have C := rtext_yes b s p _ k _ hs K1 A1
    clear A1
    have A2 : getI s.data.toList ((p + n : Nat) : Int) = _ := (getI_at _ _).trans (atI_pos getL_nil)
    rw [← List.drop_drop] at A2
    cases hN : getL ((s.data.toList.drop p).drop n) with
    | none =>
      have hz := Lib.hid (getTermL_no2 hT hN)
      rw [hN] at A2
      have C2 := fun w2 K2 => number_no b s ((p + n : Nat) : Int) 9 w2 hs K2 (by omega) (fun h => by rw [A2] at h; cases h)
      clear A2 hT hN
      replace C2 := Lib.hid C2
      go_enter Tryz.func82, Tryz.ntmps82
      go_wp2_with fail
      refine C.mono ?_; rintro e w1 ⟨rfl, K2, h1⟩
      have hA := (Ext.refl w1).alloc (.cells #[.string ⟨k.toArray⟩, .bool false, .slice none 0 0] 115)
      go_wp2_with fail
      refine (C2.out _ (K2.ext hA)).mono ?_; rintro e w2 ⟨rfl, h2⟩
      exact ⟨rfl, grown_trans (grown_trans (Ext.grownBy hW _) h1) (grown_trans (Ext.grownBy hA _) h2), Or.inr ⟨hz.out, rfl⟩⟩
    | some x =>
      obtain ⟨u, m⟩ := x
      have hz := getTermL_mid hT hN
      rw [hN] at A2
      clear hT hN
      by_cases h9 : u ≤ 9
      · rw [if_pos h9] at hz
        have C2 := fun w2 K2 => number_yes b s ((p + n : Nat) : Int) _ u 9 w2 hs K2 h9 (by omega) A2
        clear A2
        replace C2 := Lib.hid C2
        replace hz := Lib.hid hz
        go_enter Tryz.func82, Tryz.ntmps82
        go_wp2_with fail
        refine C.mono ?_; rintro e w1 ⟨rfl, K2, h1⟩
        have hA := (Ext.refl w1).alloc (.cells #[.string ⟨k.toArray⟩, .bool false, .slice none 0 0] 115)
        go_wp2_with fail
        refine (C2.out _ (K2.ext hA)).mono ?_; rintro e w2 ⟨rfl, K3, h2⟩
        have hb1 : b < w1.heap.size := Nat.lt_of_lt_of_le K1.lt h1.size
        have hBB : w.heap.size < w1.heap.size := by have := h1.size; rw [World.size_alloc] at this; omega
        have T2 := (Cell3.new w1 (.string ⟨k.toArray⟩) (.bool false) (.slice none 0 0) 115).grown h2 (some_ne (by omega))
        have R2 := ((R0.grown h1 (some_ne (by omega))).ext hA).grown h2 (some_ne (by omega))
        have G2 := grown_trans (grown_trans (Ext.grownBy hW (some b)) h1) (grown_trans (Ext.grownBy hA (some b)) h2)
        have T3 := T2.set1 (.bool (u % 2 == 1))
        have R3 := R2.far (c := w1.heap.size) (i := 1) (by omega) (.bool (u % 2 == 1))
        have K4 := K3.far (c := w1.heap.size) (i := 1) (by omega) (.bool (u % 2 == 1))
        have G3 := grown_set_new G2 (c := w1.heap.size) (by omega) 1 (.bool (u % 2 == 1))
        obtain ⟨t0, t1, t2, t3, t4, t5, t6⟩ := T2
        have e0 : ((p + n : Nat) : Int) + (m : Int) = ((p + (n + m) : Nat) : Int) := by omega
        rw [e0] at K4
        have hno : ((u : Int) % 2 == 1) = (u % 2 == 1) := by
          rw [Bool.eq_iff_iff, beq_iff_eq, beq_iff_eq]; omega
        clear e0 K2 K3 K1 K R0 C C2 hA h1 h2 hW R2 G2
        go_wp2
        clear hno
        generalize (u % 2 == 1) = no at *
        generalize hw3 : w2.setCell ⟨w1.heap.size, 1, none⟩ (.bool no) = w3 at *
        have hd2 : (u : Int) / 2 = ((u / 2 : Nat) : Int) := by omega
        obtain ⟨h, hh⟩ : ∃ h, h = u / 2 := ⟨_, rfl⟩
        rw [← hh] at hd2 hz
        rw [hd2]
        have h4 : h ≤ 4 := by omega
        generalize hKB : (⟨k.toArray⟩ : ByteArray) = KB at *
        replace hKB := Lib.hid hKB
        replace hh := Lib.hid hh
        replace hw3 := Lib.hid hw3
        have hb3 : w1.heap.size < w3.heap.size := T3.lt
        obtain ⟨B3, hB3⟩ : ∃ B3, B3 = w3.heap.size := ⟨_, rfl⟩
        have hbb : b < B3 ∧ w.heap.size < B3 ∧ w1.heap.size < B3 := by omega
        clear t0 t1 t2 t3 t4 t5 t6
        go_loopw [16] (fun i' wr => ∃ (j : Nat) (vs : List ByteArray) (r : Nat) (v : Value), j ≤ h ∧ i' = .int .i64 j ∧ Cell2 b (.string s) (.int .i64 ((p + r : Nat) : Int)) wr ∧ Cell3 w1.heap.size (.string KB) (.bool no) v wr ∧
          Cell3 w.heap.size (.string ⟨#[]⟩) (.bool false) (.slice none 0 0) wr ∧ wr.ownsRow B3 9 1 v j (vs.map .string) ∧ vs.length = j ∧ B3 ≤ wr.heap.size ∧ w.grownBy wr (some b) ∧ Hid (readsL (getTextL 32) (s.data.toList.drop p) (n + m) j = some (bytesOf vs, r))) (fun i' _ => h - (intOf i').toNat)
        case atStart => exact ⟨0, [], n + m, .slice none 0 0, by omega, rfl, K4, T3, R3, World.ownsRow_nil _ _ _ _, rfl, by omega, G3, rfl⟩
        case round =>
          obtain ⟨j, vs, r, v, hj, rfl, hK, hT, hR, ho, hvl, hB, hG, HR⟩ := hrel
          by_cases hlt2 : j < h
          · have hst := readsL_succ HR.out
            have A1 : atI (getTextL 32) [] s.data.toList ((p + r : Nat) : Int) = _ := atI_pos (getTextL_nil 32)
            rw [← List.drop_drop] at A1
            cases hX : getTextL 32 ((s.data.toList.drop p).drop r) with
            | none =>
              rw [hX] at hst A1
              have hz' : Hid (getTermL (s.data.toList.drop p) = none) := by
                have := readsL_none hst (show j + 1 ≤ h by omega)
                show _ = _
                rw [hz.out, this]
              have C := fun U K => rtext_no b s ((p + r : Nat) : Int) U hs K (by rw [A1])
              clear hst A1 hX
              replace C := Lib.hid C
              go_wp2_with fail
              try simp only [Act.put, List.setIfInBounds_toArray, List.set_cons_succ, List.set_cons_zero]
              refine Dm.wp_region_fin (I := (Cell3 w1.heap.size (.string KB) (.bool no) v)) (z := 7) 8 (Dm.bits 8 0) (by kernel_rfl) (by kernel_rfl) (by kernel_rfl) ?_
              refine Dm.wpF_take (i := 0) (listed' := (Dm.bits 8 1)) (fun _ _ h hx => h.ext hx) hT (by kernel_rfl) (by kernel_rfl) rfl (fun _ _ _ _ h => h) ?_; apply Exists.intro; refine And.intro (fun wq hwq => ?_) ?_
              · obtain ⟨_, a0, a1, a2, _, _, _⟩ := hwq; go_big_quiet_step (fail); exact wpQuiet_nil rfl
              refine Dm.wpF_take (i := 1) (listed' := (Dm.bits 8 3)) (fun _ _ h hx => h.ext hx) hT (by kernel_rfl) (by kernel_rfl) rfl (fun _ _ _ _ h => h) ?_; apply Exists.intro; refine And.intro (fun wq hwq => ?_) ?_
              · obtain ⟨_, a0, a1, a2, _, _, _⟩ := hwq; go_big_quiet_step (fail); exact wpQuiet_nil rfl
              refine Dm.wpF_take (i := 2) (listed' := (Dm.bits 8 7)) (fun _ _ h hx => h.ext hx) hT (by kernel_rfl) (by kernel_rfl) rfl (fun _ _ _ _ h => h) ?_; apply Exists.intro; refine And.intro (fun wq hwq => ?_) ?_
              · obtain ⟨_, a0, a1, a2, _, _, _⟩ := hwq; go_big_quiet_step (fail); exact wpQuiet_nil rfl
              refine Dm.wpF_one (i := 3) (listed' := (Dm.bits 8 15)) (by kernel_rfl) (by kernel_rfl) rfl (fun wm3 hxm3 => ?_)
              go_wp2_with fail
              refine (C.out _ (hK.ext hxm3)).mono ?_; rintro e w5 ⟨rfl, h5⟩
              exact ⟨rfl, grown_trans (grown_trans hG (Ext.grownBy hxm3 _)) h5, Or.inr ⟨hz'.out, rfl⟩⟩
            | some x =>
              obtain ⟨t, n2⟩ := x
              rw [hX] at hst A1
              have C := fun U K => rtext_yes b s ((p + r : Nat) : Int) _ t U hs K A1
              clear A1 hX
              generalize hTB : (⟨t.toArray⟩ : ByteArray) = TB at *
              have hst' : Hid (readsL (getTextL 32) (s.data.toList.drop p) (n + m) (j + 1) = some (bytesOf (vs ++ [TB]), r + n2)) := by
                show _ = _
                rw [hst, ← hTB]
                simp [bytesOf]
              clear hst hTB
              replace C := Lib.hid C
              have HI := hT
              go_wp2_with fail
              try simp only [Act.put, List.setIfInBounds_toArray, List.set_cons_succ, List.set_cons_zero]
              refine Dm.wp_region_fin (I := (Cell3 w1.heap.size (.string KB) (.bool no) v)) (z := 7) 8 (Dm.bits 8 0) (by kernel_rfl) (by kernel_rfl) (by kernel_rfl) ?_
              refine Dm.wpF_take (i := 0) (listed' := (Dm.bits 8 1)) (fun _ _ h hx => h.ext hx) HI (by kernel_rfl) (by kernel_rfl) rfl (fun _ _ _ _ h => h) ?_; apply Exists.intro; refine And.intro (fun wq hwq => ?_) ?_
              · obtain ⟨_, a0, a1, a2, _, _, _⟩ := hwq; go_big_quiet_step (fail); exact wpQuiet_nil rfl
              refine Dm.wpF_take (i := 1) (listed' := (Dm.bits 8 3)) (fun _ _ h hx => h.ext hx) HI (by kernel_rfl) (by kernel_rfl) rfl (fun _ _ _ _ h => h) ?_; apply Exists.intro; refine And.intro (fun wq hwq => ?_) ?_
              · obtain ⟨_, a0, a1, a2, _, _, _⟩ := hwq; go_big_quiet_step (fail); exact wpQuiet_nil rfl
              refine Dm.wpF_take (i := 2) (listed' := (Dm.bits 8 7)) (fun _ _ h hx => h.ext hx) HI (by kernel_rfl) (by kernel_rfl) rfl (fun _ _ _ _ h => h) ?_; apply Exists.intro; refine And.intro (fun wq hwq => ?_) ?_
              · obtain ⟨_, a0, a1, a2, _, _, _⟩ := hwq; go_big_quiet_step (fail); exact wpQuiet_nil rfl
              refine Dm.wpF_one (i := 3) (listed' := (Dm.bits 8 15)) (by kernel_rfl) (by kernel_rfl) rfl (fun wm3 hxm3 => ?_)
              go_wp2_with fail
              refine (C.out _ (hK.ext hxm3)).mono ?_; rintro e w5 ⟨rfl, K5, h5⟩
              have T5 := (hT.ext hxm3).grown h5 (some_ne (by omega))
              have R5 := (hR.ext hxm3).grown h5 (some_ne (by omega))
              have G5 := grown_trans (grown_trans hG (Ext.grownBy hxm3 _)) h5
              have o5 := grown_row (Ext.row ho hxm3) h5 (fun c e => by injection e with e; omega)
              have B5 := Nat.le_trans (Nat.le_trans hB hxm3.size) h5.size
              go_wp2_with fail
              refine ⟨(by first | exact T5 | exact fun _ => T5), ?_⟩
              replace HI := T5
              try simp only [Act.put, List.setIfInBounds_toArray, List.set_cons_succ, List.set_cons_zero]
              refine Dm.wpF_one (i := 4) (listed' := (Dm.bits 8 31)) (by kernel_rfl) (by kernel_rfl) rfl (fun wm4 hxm4 => ?_)
              have ha := hxm4.trans ((Ext.refl wm4).alloc (.cells #[.string TB] 9))
              have hl5 := Sl.lit wm4 9 1 1 #[.string TB] rfl (by simp [maxLen])
              go_wp2_with fail
              generalize wm4.alloc (.cells #[.string TB] 9) = w6 at *
              refine ⟨(by first | exact T5.ext ha | exact fun _ => T5.ext ha), ?_⟩
              replace T5 := T5.ext ha
              replace R5 := R5.ext ha
              replace K5 := K5.ext ha
              replace o5 := Ext.row o5 ha
              replace G5 := grown_trans G5 (Ext.grownBy ha _)
              replace B5 := Nat.le_trans B5 ha.size
              replace HI := T5
              try simp only [Act.put, List.setIfInBounds_toArray, List.set_cons_succ, List.set_cons_zero]
              refine Dm.wpF_one (i := 5) (listed' := (Dm.bits 8 63)) (by kernel_rfl) (by kernel_rfl) rfl (fun wm5 hxm5 => ?_)
              replace T5 := T5.ext hxm5
              replace R5 := R5.ext hxm5
              replace K5 := K5.ext hxm5
              replace o5 := Ext.row o5 hxm5
              replace hl5 := hl5.ext hxm5
              replace G5 := grown_trans G5 (Ext.grownBy hxm5 _)
              replace B5 := Nat.le_trans B5 hxm5.size
              refine wpList_app rfl _ _ Tryz.slStr rfl rfl o5 rfl hl5 (strs_one [TB]) (by omega) B5 ?_; intro v6 w7 o7 g7
              have hq : ∀ c, v.ownBlock = some c → B3 ≤ c := fun c e => (World.ownsRow.lt o5 c e).1
              replace T5 := T5.grown g7 (fun e => by have := hq _ e; omega)
              replace R5 := R5.grown g7 (fun e => by have := hq _ e; omega)
              replace K5 := K5.grown g7 (fun e => by have := hq _ e; omega)
              replace G5 := grown_new G5 g7 (fun c e => by have := hq _ e; omega)
              replace B5 := Nat.le_trans B5 g7.size
              refine wpList_nil ?_
              refine ⟨(by first | exact T5 | exact fun _ => T5), ?_⟩
              replace HI := T5
              obtain ⟨q6, cap6, rfl⟩ := row_shape o7
              try simp only [Act.put, List.setIfInBounds_toArray, List.set_cons_succ, List.set_cons_zero]
              refine Dm.wpF_take (i := 6) (listed' := (Dm.bits 8 127)) (fun _ _ h hx => h.ext hx) HI (by kernel_rfl) (by kernel_rfl) rfl (fun _ _ _ _ h => h) ?_; apply Exists.intro; refine And.intro (fun wq hwq => ?_) ?_
              · obtain ⟨_, a0, a1, a2, _, _, _⟩ := hwq; go_big_quiet_step (fail); exact wpQuiet_nil rfl
              refine Dm.wpF_one (i := 7) (listed' := (Dm.bits 8 255)) (by kernel_rfl) (by kernel_rfl) rfl (fun wz hxz => ?_)
              obtain ⟨_, z0, z1, z2, _, _, y2⟩ := T5.ext hxz
              go_wp2_with fail
              first | refine ⟨fun h => absurd rfl h, ?_⟩ | skip
              refine Dm.wpF_done (by kernel_rfl) (fun wy hxy => ?_)
              have T8 := ((T5.ext hxz).set2 (.slice q6 (j + 1) cap6)).ext hxy
              have R8 := ((R5.ext hxz).far (c := w1.heap.size) (i := 2) (by omega) (.slice q6 (j + 1) cap6)).ext hxy
              have K8 := ((K5.ext hxz).far (c := w1.heap.size) (i := 2) (by omega) (.slice q6 (j + 1) cap6)).ext hxy
              have o8 := Ext.row (grown_row (Ext.row o7 hxz) (grown_set wz w1.heap.size 2 (.slice q6 (j + 1) cap6)) (fun c e => by injection e with e; omega)) hxy
              have G8 := grown_trans (grown_set_new (grown_trans G5 (Ext.grownBy hxz _)) (c := w1.heap.size) (by omega) 2 (.slice q6 (j + 1) cap6)) (Ext.grownBy hxy _)
              have B8 : B3 ≤ wy.heap.size := by have h1 := hxz.size; have h2 := hxy.size; rw [World.size_setCell] at h2; omega
              rw [← strs_snoc] at o8
              clear T5 R5 K5 o7 G5 B5 z0 z1 z2 y2
              go_wp2
              go_roundw
              case rel => exact ⟨j + 1, vs ++ [TB], r + n2, .slice q6 (j + 1) cap6, by omega, by go_num, (by rw [← Nat.add_assoc]; exact K8), T8, R8, o8, by simp [hvl], B8, G8, hst'⟩
              case measure => simp [intOf]; omega
          · obtain rfl : j = h := by omega
            obtain ⟨q6, cap6, rfl⟩ := row_shape ho
            have hvs : Strs wr (.slice q6 j cap6) vs := Strs.of_row ho hvl.symm
            have hq : ∀ c, (Value.slice q6 j cap6).ownBlock = some c → B3 ≤ c := fun c e => (World.ownsRow.lt ho c e).1
            have hfin : Hid (getTermL (s.data.toList.drop p) = some ((k, no, bytesOf vs), r)) := by
              show _ = _
              rw [hz.out, HR.out]
            have R8 := hR.put (.string KB) (.bool no) (.slice q6 j cap6)
            have G8 := grown_set_new (grown_set_new (grown_set_new hG (c := w.heap.size) (Nat.le_refl _) 0 (.string KB)) (c := w.heap.size) (Nat.le_refl _) 1 (.bool no)) (c := w.heap.size) (Nat.le_refl _) 2 (.slice q6 j cap6)
            have K8 := ((hK.far (c := w.heap.size) (i := 0) (by omega) (.string KB)).far (c := w.heap.size) (i := 1) (by omega) (.bool no)).far (c := w.heap.size) (i := 2) (by omega) (.slice q6 j cap6)
            have V8 : Strs (((wr.setCell ⟨w.heap.size, 0, none⟩ (.string KB)).setCell ⟨w.heap.size, 1, none⟩ (.bool no)).setCell ⟨w.heap.size, 2, none⟩ (.slice q6 j cap6)) (.slice q6 j cap6) vs := by
              cases q6 with
              | none =>
                have : vs = [] := by
                  by_cases h0 : vs.length = 0
                  · exact List.length_eq_zero_iff.1 h0
                  · subst hvl
                    obtain ⟨_, _, e, _⟩ := hvs.at (k := 0) (by omega)
                    cases e
                subst this
                exact ⟨rfl, hvs.2.choose, hvs.2.choose_spec.choose, hvs.2.choose_spec.choose_spec.1, hvs.2.choose_spec.choose_spec.2.1, hvs.2.choose_spec.choose_spec.2.2.1, hvs.2.choose_spec.choose_spec.2.2.2.1, Or.inl rfl⟩
              | some a =>
                obtain ⟨ab, ao, asp⟩ := a
                have := hq ab rfl
                subst hvl
                by_cases h0 : vs.length = 0
                · have : vs = [] := List.length_eq_zero_iff.1 h0
                  subst this
                  exact ⟨rfl, hvs.2.choose, hvs.2.choose_spec.choose, hvs.2.choose_spec.choose_spec.1, hvs.2.choose_spec.choose_spec.2.1, hvs.2.choose_spec.choose_spec.2.2.1, hvs.2.choose_spec.choose_spec.2.2.2.1, Or.inl rfl⟩
                · obtain ⟨_, _, e, _⟩ := hvs.at (k := 0) (by omega)
                  injection e with e; injection e with e1 e2 e3
                  subst e1 e2 e3
                  exact Sl.far (i := 2) (Sl.far (i := 1) (Sl.far (i := 0) hvs (by omega) _) (by omega) _) (by omega) _
            obtain ⟨_, r0, r1, r2, r3, r4, r5⟩ := hR
            obtain ⟨_, s0, s1, s2, _, _, _⟩ := hT
            have hq' : Hid (∀ c, (Value.slice q6 j cap6).ownBlock = some c → w.heap.size ≤ c) := fun c e => by have := hq c e; omega
            clear ho hvs hq HR hz
            go_wp2
            obtain ⟨_, k0, k1, k2, _, _, _⟩ := R8
            refine bodyPost_ret (v := .agg #[.string KB, .bool no, .slice q6 j cap6]) (by simp [results, Tryz.results82, go_sem, k0, k1, k2]) rfl ?_
            refine ⟨G8, Or.inl ⟨(k, no, bytesOf vs), r, (KB, no, .slice q6 j cap6, vs), hfin.out, rfl, ?_, V8, hq'.out, K8⟩⟩
            rw [← hKB.out]
            simp only [rowT, mkT, bytesOf, List.map_map, Prod.mk.injEq, true_and]
            conv => lhs; rw [← List.map_id vs]
            exact List.map_congr_left fun x _ => by cases x; simp
      · rw [if_neg h9] at hz
        have C2 := fun w2 K2 => number_no b s ((p + n : Nat) : Int) 9 w2 hs K2 (by omega) (fun _ => by rw [A2]; show 9 < u; omega)
        clear A2
        replace C2 := Lib.hid C2
        replace hz := Lib.hid hz
        go_enter Tryz.func82, Tryz.ntmps82
        go_wp2_with fail
        refine C.mono ?_; rintro e w1 ⟨rfl, K2, h1⟩
        have hA := (Ext.refl w1).alloc (.cells #[.string ⟨k.toArray⟩, .bool false, .slice none 0 0] 115)
        go_wp2_with fail
        refine (C2.out _ (K2.ext hA)).mono ?_; rintro e w2 ⟨rfl, h2⟩
        exact ⟨rfl, grown_trans (grown_trans (Ext.grownBy hW _) h1) (grown_trans (Ext.grownBy hA _) h2), Or.inr ⟨hz.out, rfl⟩⟩

end Go.Proofs.YthmhalcloogniaaGreatDoor

namespace Go.Proofs.YthmhalcloogniaaGreatDoor
open Go.RowKit Go.Dm

theorem assert_bad (w : World) : (Instr.typeAssert badV 20 126 false).run Tryz.prog w = .ok (.agg #[]) w := by kernel_rfl

theorem sget1_panicking (bl bn bo : Nat) (vl vn vo : Value) (older : List PanicEntry) (w : World) (kl : Go.Dm.Cell bl vl w) (kn : Go.Dm.Cell bn vn w) (ko : Go.Dm.Cell bo vo w) (h1 : bl ≠ bn) (h2 : bl ≠ bo) (h3 : bn ≠ bo) :
    CallsD Tryz.prog 80 #[.pointer (some ⟨bl, 0, none⟩), .pointer (some ⟨bn, 0, none⟩), .pointer (some ⟨bo, 0, none⟩)] (.panicking ({ v := badV, recovered := false } :: older)) w fun e u' w' =>
      e = .returned (.tuple #[]) ∧ u' = .panicking ({ v := badV, recovered := true } :: older) ∧ w' = ((w.setCell ⟨bl, 0, none⟩ (.slice none 0 0)).setCell ⟨bn, 0, none⟩ (.int .i64 0)).setCell ⟨bo, 0, none⟩ (.bool false) := by
  have hA := assert_bad
  unfold badV at *
  refine callsD_of_wpS Tryz.func80 rfl fun c₀ cs hu => ?_
  apply wpS_seq
  apply wpS_region
  simp [wpOpsS, go_sem, recoverD, hu, Tryz.ntmps80, Exit.thenS]
  apply wpS_seq
  apply wpS_region
  simp [wpOpsS, go_sem, Exit.thenS]
  refine wpS_cond (t := true) (by simp [Act.eval, Array.replicate]) ?_
  simp only [if_true]
  obtain ⟨_, l1, l2⟩ := kl
  obtain ⟨_, n1, n2⟩ := kn.other (c := bl) (Ne.symm h1) (.slice none 0 0)
  obtain ⟨_, o1, o2⟩ := (ko.other (c := bl) (Ne.symm h2) (.slice none 0 0)).other (c := bn) (Ne.symm h3) (.int .i64 0)
  apply wpS_seq
  apply wpS_region
  simp [wpOpsS, go_sem, Exit.thenS, hA, Array.replicate]
  apply wpS_region
  simp [wpOpsS, go_sem, l1, l2, n1, n2, o1, o2, bodyPostS, results, Tryz.results80]

theorem sget1_idle (bl bn bo : Nat) (w : World) :
    CallsD Tryz.prog 80 #[.pointer (some ⟨bl, 0, none⟩), .pointer (some ⟨bn, 0, none⟩), .pointer (some ⟨bo, 0, none⟩)] .returning w fun e u' w' => e = .returned (.tuple #[]) ∧ u' = .returning ∧ w' = w := by
  refine callsD_of_wpS Tryz.func80 rfl fun c₀ cs hu => ?_
  apply wpS_seq
  apply wpS_region
  simp [wpOpsS, go_sem, recoverD, hu, Tryz.ntmps80, Exit.thenS]
  apply wpS_seq
  apply wpS_region
  simp [wpOpsS, go_sem, Exit.thenS]
  refine wpS_cond (t := false) (by simp [Act.eval]) ?_
  simp only [Bool.false_eq_true, if_false]
  refine wpS_of_wp (wp_skip ?_)
  cases c₀
  simp_all [bodyPostS, results, Tryz.results80]

end Go.Proofs.YthmhalcloogniaaGreatDoor

namespace Go.Dm
open Go Go.RowKit

/-- The selector that stands first. -/
def getSelL (l : Bs) : Option (List (Bs × Bool × List Bs) × Nat) :=
  match someL getTermL 4 l with
  | some (T, n) => if rightS (T.map mkT) = true then some (T, n) else none
  | none => none
theorem getSelL_none {l : Bs} (h : someL getTermL 4 l = none) : getSelL l = none := by unfold getSelL; rw [h]
theorem getSelL_some {l : Bs} {T : List (Bs × Bool × List Bs)} {n : Nat} (h : someL getTermL 4 l = some (T, n)) : getSelL l = if rightS (T.map mkT) = true then some (T, n) else none := by unfold getSelL; rw [h]
theorem getSelL_nil : getSelL [] = none := rfl
theorem getSelI_no {l : Bs} {p : Int} (h : (getI l p).2.2 = false) : atI getSelL [] l p = ([], 0, false) := by
  have := someI_no (g := getTermL) (most := 4) h
  unfold atI at *
  split
  · rfl
  · rename_i hp
    rw [if_neg hp] at this
    cases hg : someL getTermL 4 (l.drop p.toNat) with
    | none => rw [getSelL_none hg]
    | some x => rw [hg] at this; injection this with _ h; injection h with _ h; cases h

theorem getTextL_fit {most : Nat} {l t : Bs} {n : Nat} (h : getTextL most l = some (t, n)) : t.length ≤ most := by
  cases hg : getL l with
  | none => rw [getTextL_none hg] at h; cases h
  | some x =>
    obtain ⟨u, m⟩ := x
    rw [getTextL_some hg] at h
    split at h
    · rename_i hu
      injection h with h
      injection h with h1 h2
      rw [← h1, List.length_take]; omega
    · cases h
theorem readsL_all {α : Type} {g : Bs → Option (α × Nat)} {l : Bs} {q : Nat} : ∀ {i : Nat} {xs : List α} {r : Nat}, readsL g l q i = some (xs, r) → xs.length = i ∧ ∀ x ∈ xs, ∃ l' n, g l' = some (x, n)
  | 0, xs, r, h => by
    injection h with h
    injection h with h1 _
    subst h1
    exact ⟨rfl, fun x hx => by cases hx⟩
  | i + 1, xs, r, h => by
    cases hi : readsL g l q i with
    | none => rw [readsL_none hi (Nat.le_succ i)] at h; cases h
    | some y =>
      obtain ⟨ys, r2⟩ := y
      rw [readsL_succ hi] at h
      cases hg : g (l.drop r2) with
      | none => rw [hg] at h; cases h
      | some z =>
        obtain ⟨z, n⟩ := z
        rw [hg] at h
        injection h with h
        injection h with h1 _
        obtain ⟨e1, e2⟩ := readsL_all hi
        subst h1
        refine ⟨by simp [e1], fun x hx => ?_⟩
        rcases List.mem_append.1 hx with hx | hx
        · exact e2 x hx
        · rw [List.mem_singleton.1 hx]; exact ⟨_, _, hg⟩
/-- A term that was got is short. -/
theorem getTermL_fit {l : Bs} {T : Bs × Bool × List Bs} {n : Nat} (h : getTermL l = some (T, n)) : T.1.length ≤ 32 ∧ T.2.2.length ≤ 4 ∧ ∀ x ∈ T.2.2, x.length ≤ 32 := by
  cases hT : getTextL 32 l with
  | none => rw [getTermL_no1 hT] at h; cases h
  | some x =>
    obtain ⟨k, n1⟩ := x
    cases hN : getL (l.drop n1) with
    | none => rw [getTermL_no2 hT hN] at h; cases h
    | some x =>
      obtain ⟨u, m⟩ := x
      rw [getTermL_mid hT hN] at h
      split at h
      · rename_i h9
        cases hr : readsL (getTextL 32) l (n1 + m) (u / 2) with
        | none => rw [hr] at h; cases h
        | some y =>
          obtain ⟨vs, r⟩ := y
          rw [hr] at h
          injection h with h
          injection h with h1 _
          subst h1
          obtain ⟨e1, e2⟩ := readsL_all hr
          refine ⟨getTextL_fit hT, by show vs.length ≤ 4; omega, fun x hx => ?_⟩
          obtain ⟨l', n', h'⟩ := e2 x hx
          exact getTextL_fit h'
      · cases h
theorem mkT_fit {T : Bs × Bool × List Bs} (h : T.1.length ≤ 32 ∧ T.2.2.length ≤ 4 ∧ ∀ x ∈ T.2.2, x.length ≤ 32) : FitT (mkT T) := by
  obtain ⟨h1, h2, h3⟩ := h
  refine ⟨?_, ?_, ?_⟩
  · show T.1.length ≤ _
    omega
  · show (T.2.2.map _).length ≤ _
    rw [List.length_map]; omega
  · intro x hx
    obtain ⟨y, hy, rfl⟩ := List.mem_map.1 hx
    have := h3 y hy
    show y.length ≤ _
    omega

/-- What Get has laid: its results, its reader. -/
structure GS (B : Nat) (s : ByteArray) (v : Value) (p : Int) (w : World) : Prop where
  l : Go.Dm.Cell B v w
  n : Go.Dm.Cell (B + 1) (.int .i64 0) w
  o : Go.Dm.Cell (B + 1 + 1) (.bool false) w
  r : Cell2 (B + 1 + 1 + 1) (.string s) (.int .i64 p) w
theorem GS.ext {B : Nat} {s : ByteArray} {v : Value} {p : Int} {w w' : World} (h : GS B s v p w) (hx : Ext w w') : GS B s v p w' := ⟨h.l.ext hx, h.n.ext hx, h.o.ext hx, h.r.ext hx⟩
theorem Cell.grown {b : Nat} {x : Value} {w w' : World} {q : Option Nat} (h : Go.Dm.Cell b x w) (hg : w.grownBy w' q) (hb : q ≠ some b) : Go.Dm.Cell b x w' := by
  have hc : w'.cell? ⟨b, 0, none⟩ = w.cell? ⟨b, 0, none⟩ := World.cell?_of_block (a := ⟨b, 0, none⟩) (hg.block b h.1 (fun e => hb e.symm))
  have hf : w'.frozen? ⟨b, 0, none⟩ = w.frozen? ⟨b, 0, none⟩ := World.frozen?_of_block (a := ⟨b, 0, none⟩) (hg.block b h.1 (fun e => hb e.symm))
  exact ⟨Nat.lt_of_lt_of_le h.1 hg.size, by rw [hc]; exact h.2.1, by rw [hf]; exact h.2.2⟩
/-- The reader went on. -/
theorem GS.read {B : Nat} {s : ByteArray} {v : Value} {p p' : Int} {w w' : World} (h : GS B s v p w) (hg : w.grownBy w' (some (B + 1 + 1 + 1))) (hr : Cell2 (B + 1 + 1 + 1) (.string s) (.int .i64 p') w') : GS B s v p' w' :=
  ⟨Cell.grown h.l hg (some_ne (by omega)), Cell.grown h.n hg (some_ne (by omega)), Cell.grown h.o hg (some_ne (by omega)), hr⟩
/-- The reader alone may have been turned. -/
structure GP (B : Nat) (v : Value) (w : World) : Prop where
  l : Go.Dm.Cell B v w
  n : Go.Dm.Cell (B + 1) (.int .i64 0) w
  o : Go.Dm.Cell (B + 1 + 1) (.bool false) w
theorem GS.torn {B : Nat} {s : ByteArray} {v : Value} {p : Int} {w w' : World} (h : GS B s v p w) (hg : w.grownBy w' (some (B + 1 + 1 + 1))) : GP B v w' :=
  ⟨Cell.grown h.l hg (some_ne (by omega)), Cell.grown h.n hg (some_ne (by omega)), Cell.grown h.o hg (some_ne (by omega))⟩
theorem GS.grown {B : Nat} {s : ByteArray} {v : Value} {p : Int} {w w' : World} {q : Option Nat} (h : GS B s v p w) (hg : w.grownBy w' q) (hq : ∀ c, q = some c → B + 1 + 1 + 1 < c) : GS B s v p w' :=
  ⟨Cell.grown h.l hg (fun e => by have := hq _ e; omega), Cell.grown h.n hg (fun e => by have := hq _ e; omega), Cell.grown h.o hg (fun e => by have := hq _ e; omega), h.r.grown hg (fun e => by have := hq _ e; omega)⟩
theorem GS.set {B : Nat} {s : ByteArray} {v : Value} {p : Int} {w : World} (h : GS B s v p w) (u : Value) : GS B s u p (w.setCell ⟨B, 0, none⟩ u) :=
  ⟨h.l.set u, h.n.other (by omega) u, h.o.other (by omega) u, h.r.far (by omega) u⟩

def laid4 (w : World) (s : ByteArray) (p : Int) (t0 t1 t2 t3 : TypeId) : World :=
  (((w.alloc (.cells #[.slice none 0 0] t0)).alloc (.cells #[.int .i64 0] t1)).alloc (.cells #[.bool false] t2)).alloc (.cells #[.string s, .int .i64 p] t3)
theorem laid4_ext (w : World) (s : ByteArray) (p : Int) (t0 t1 t2 t3 : TypeId) : Ext w (laid4 w s p t0 t1 t2 t3) := ((((Ext.refl w).alloc _).alloc _).alloc _).alloc _
theorem laid4_size (w : World) (s : ByteArray) (p : Int) (t0 t1 t2 t3 : TypeId) : (laid4 w s p t0 t1 t2 t3).heap.size = w.heap.size + 1 + 1 + 1 + 1 := by simp [laid4]
theorem laid4_gs (w : World) (s : ByteArray) (p : Int) (t0 t1 t2 t3 : TypeId) : GS w.heap.size s (.slice none 0 0) p (laid4 w s p t0 t1 t2 t3) := by
  unfold laid4
  have a0 := Cell.new w (.slice none 0 0) t0
  generalize h0 : w.alloc (.cells #[.slice none 0 0] t0) = w0 at *
  have s0 : w0.heap.size = w.heap.size + 1 := by rw [← h0]; simp
  have a1 := Cell.new w0 (.int .i64 0) t1
  have a0 := a0.ext ((Ext.refl w0).alloc (.cells #[.int .i64 0] t1))
  generalize h1 : w0.alloc (.cells #[.int .i64 0] t1) = w1 at *
  have s1 : w1.heap.size = w.heap.size + 1 + 1 := by rw [← h1]; simp [s0]
  have a2 := Cell.new w1 (.bool false) t2
  have a0 := a0.ext ((Ext.refl w1).alloc (.cells #[.bool false] t2))
  have a1 := a1.ext ((Ext.refl w1).alloc (.cells #[.bool false] t2))
  generalize h2 : w1.alloc (.cells #[.bool false] t2) = w2 at *
  have s2 : w2.heap.size = w.heap.size + 1 + 1 + 1 := by rw [← h2]; simp [s1]
  have a3 := Cell2.new w2 (.string s) (.int .i64 p) t3
  have x := (Ext.refl w2).alloc (.cells #[.string s, .int .i64 p] t3)
  rw [s0] at a1
  rw [s1] at a2
  rw [s2] at a3
  exact ⟨a0.ext x, a1.ext x, a2.ext x, a3⟩
end Go.Dm
