/- Chapter 5: the walk of Parse. -/
import Derived.Test.YtbkemhheombfcaaDoorSWalkI
import Derived.Test.YtbkemhheombfcaaDoorSRows
namespace Go.Dm
open Go Go.RowKit
theorem bytesOf_size' {vs : List ByteArray} {c : UInt8} {t : Bs} (h : bytesOf vs = splitC c t) : ∀ k, k < vs.length → (strAt vs k).size ≤ t.length := by
  intro k hk
  rw [size_len]
  refine mem_splitC_len (c := c) ?_
  rw [← h]
  exact List.mem_map_of_mem (strAt_mem hk)
theorem splitC_count (c : UInt8) : ∀ l : Bs, (splitC c l).length ≤ l.length + 1
  | [] => by simp [splitC]
  | a :: l => by
    have := splitC_count c l
    unfold splitC
    split
    · simp only [List.length_cons]; omega
    · split
      · simp
      · rename_i h; rw [h] at this; simp only [List.length_cons] at *; omega
theorem termL_fit (x : ByteArray) : (mkT (termL x.data.toList)).1.size ≤ x.size ∧ (mkT (termL x.data.toList)).2.2.length ≤ x.size + 1 ∧ ∀ y ∈ (mkT (termL x.data.toList)).2.2, y.size ≤ x.size := by
  have hx := size_len x
  have hc := cutC_len 61 x.data.toList
  have hv : ∀ y ∈ (splitC 124 (cutC 61 x.data.toList).2.1).map (fun x => (⟨x.toArray⟩ : ByteArray)), y.size ≤ x.size := by
    intro y hy
    obtain ⟨z, hz, rfl⟩ := List.mem_map.1 hy
    rw [size_len]
    show z.length ≤ _
    have := mem_splitC_len hz
    omega
  have hn := splitC_count 124 (cutC 61 x.data.toList).2.1
  unfold termL mkT
  split
  · refine ⟨?_, by simp, by simp⟩
    show (x.data.toList.drop 1).length ≤ x.size
    rw [List.length_drop]; omega
  · split
    · refine ⟨?_, by simp, by simp⟩
      show x.data.toList.length ≤ x.size
      omega
    · split
      · refine ⟨?_, (by show (List.map (fun x : Bs => (⟨x.toArray⟩ : ByteArray)) (splitC 124 (cutC 61 x.data.toList).2.1)).length ≤ x.size + 1; rw [List.length_map]; omega), hv⟩
        show (cutC 61 x.data.toList).1.dropLast.length ≤ x.size
        rw [List.length_dropLast]; omega
      · refine ⟨?_, (by show (List.map (fun x : Bs => (⟨x.toArray⟩ : ByteArray)) (splitC 124 (cutC 61 x.data.toList).2.1)).length ≤ x.size + 1; rw [List.length_map]; omega), hv⟩
        show (cutC 61 x.data.toList).1.length ≤ x.size
        omega
end Go.Dm
namespace Go.Proofs.YtbkemhheombfcaaDoor
open Go.RowKit Go.Dm

theorem Tryd.slTerm : SlT Tryd.prog 53 57 3 48 := SlT.mk' Tryd.underlying53 (by kernel_rfl) (by decide) (by decide)

set_option maxHeartbeats 2000000 in
set_option maxRecDepth 100000 in
theorem sparse_w (t : ByteArray) (w : World) (hs : t.size < 2147483640) (ht : Vars w) :
    Calls Tryd.prog 38 #[.string t] w fun e w' => ∃ r R b, e = .returned (.tuple #[r, .bool b]) ∧ Terms w' r R ∧ (R.map rowT, b) = parseS t.data.toList ∧ FitR R ∧ R.length ≤ 4 ∧ Ext w w' := by
  by_cases h45 : t.data.toList = [45]
  · obtain rfl : t = ⟨#[45]⟩ := mk_bytes h45
    clear h45
    go_enter Tryd.func38, Tryd.ntmps38
    go_wp2
    go_ret2
    exact ⟨_, [], true, rfl, Terms.nil _, rfl, (fun r hr => by cases hr), by simp, Ext.refl _⟩
  · have hXt : (t.toList == [45]) = false := by rw [ByteArray.toList_eq, beq_eq_false_iff_ne]; exact h45
    have hXt' : ¬ t.toList = [45] := by rw [ByteArray.toList_eq]; exact h45
    have C := split_w t 44 w (by omega) ht
    replace h45 := Lib.hid h45
    go_enter Tryd.func38, Tryd.ntmps38
    go_wp2_with fail
    refine C.mono ?_; rintro e W ⟨ss, rfl, hx, hsp, hl, hal⟩
    clear C
    have hz := Lib.hid (bytesOf_size' hsp)
    have hmap : Hid (ss.map (fun x => mkT (termL x.data.toList)) = termsL t.data.toList) := by
      show _ = _
      unfold termsL
      rw [← hsp, bytesOf, List.map_map]; rfl
    have hfit : Hid (∀ k, k < ss.length → FitT (mkT (termL (strAt ss k).data.toList))) := fun k hk => by
      obtain ⟨f1, f2, f3⟩ := termL_fit (strAt ss k)
      have := hz.out k hk
      rw [← size_len] at this
      exact ⟨by omega, by omega, fun y hy => by have := f3 y hy; omega⟩
    clear hsp
    go_wp2
    go_loopw [4, 12] (fun v i' wr => ∃ (k : Nat) (R : List RowS), k ≤ ss.length ∧ i' = .int .i64 k ∧ Ext W wr ∧ TRow 57 W wr v k R ∧ Hid (R.map rowT = (ss.take k).map (fun x => mkT (termL x.data.toList)))) (fun _ i' _ => ss.length - (intOf i').toNat)
    case atStart => exact ⟨0, [], by omega, rfl, Ext.refl _, TRow.nil _ _ _, rfl⟩
    case round =>
      obtain ⟨k, R, hk, rfl, hb, ho, hR⟩ := hrel
      have er := hal.trans hb
      by_cases hlt : k < ss.length
      · obtain ⟨hbl, c0⟩ := (hx.ext hb).cells hlt
        rw [Nat.zero_add] at c0
        have hzk := hz.out k hlt
        have C := termof_w (strAt ss k) wr (by rw [← size_len] at hzk; omega) (ht.ext er)
        clear hzk
        go_wp2_with fail
        refine C.mono ?_; rintro e w2 ⟨r, rfl, hr, hv, hbk, h2⟩
        clear C
        have hap := ho.apart_new hbk
        have ho2 := ho.ext h2
        obtain ⟨k1, n1, v1, vals1⟩ := r
        have hv : Strs w2 v1 vals1 := hv
        have hsn : Hid ((R ++ [(k1, n1, v1, vals1)]).map rowT = (ss.take (k + 1)).map (fun x => mkT (termL x.data.toList))) := by
          show _ = _
          rw [List.map_append, hR.out, List.take_succ_eq_append_getElem hlt, List.map_append]
          simp only [List.map_cons, List.map_nil, hr]
          simp [strAt, hlt]
        obtain ⟨q3, cap3, rfl, _, _⟩ := hv.shape
        have ha4 := (Ext.refl w2).alloc (.cells #[.string k1, .bool n1, .slice q3 vals1.length cap3] 57)
        have hb4 := (hb.trans h2).trans ha4
        have ho4 := ho2.ext ha4
        have hv4 := hv.ext ha4
        have hl4 := Sl.lit w2 57 3 1 #[.string k1, .bool n1, .slice q3 vals1.length cap3] rfl (by simp [maxLen])
        have hap4 : (k1, n1, Value.slice q3 vals1.length cap3, vals1).2.2.2 = [] ∨ Apart (k1, n1, Value.slice q3 vals1.length cap3, vals1).2.2.1 _ := Or.inr hap
        replace hap4 := Lib.hid hap4
        clear ho ho2 hr hR hap hbk
        go_wp2_with (at_builtin; refine wpList_appT rfl _ _ Tryd.slTerm rfl hb4 rfl ho4 (r := (k1, n1, .slice q3 vals1.length cap3, vals1)) rfl hl4 hv4 hap4.out (by omega) ?_; intro v5 w5 ho5 hb5 _)
        go_roundw
        case rel => exact ⟨k + 1, R ++ [(k1, n1, .slice q3 vals1.length cap3, vals1)], by omega, by go_num, hb5, ho5, hsn⟩
        case measure => simp [intOf]; omega
      · obtain rfl : k = ss.length := by omega
        have hRe := hR.out
        rw [List.take_length] at hRe
        have hRl : R.length = ss.length := by have := congrArg List.length hRe; simpa using this
        have hF : FitR R := fun r hr => by
          have : rowT r ∈ ss.map (fun x => mkT (termL x.data.toList)) := by rw [← hRe]; exact List.mem_map_of_mem hr
          obtain ⟨x, hx, e⟩ := List.mem_map.1 this
          obtain ⟨j, hj, e2⟩ := List.getElem_of_mem hx
          have h2 : strAt ss j = x := by simp [strAt, hj, e2]
          have := hfit.out j hj
          rw [h2] at this
          rw [← e]; exact this
        have hT := ho.terms hRl.symm
        have hRt : Hid (R.map rowT = termsL t.data.toList) := hRe.trans hmap.out
        have CR := sright_w R _ wr (by rw [hRl]; omega) hF hT (ht.tabs.ext er)
        have CT := fun w3 (h3 : Ext wr w3) => stext_w R _ w3 (by rw [hRl]; omega) hF (hT.ext h3) (ht.tabs.ext (er.trans h3))
        rw [hRt.out] at CR CT
        clear hRe hR hfit hmap hz ho
        cases hRi : rightS (termsL t.data.toList) with
        | false =>
          have hz' := Lib.hid (parseS_bad h45.out hRi)
          rw [hRi] at CR
          clear hRi CT
          go_wp2_with fail
          refine CR.mono ?_; rintro e w3 ⟨rfl, h3⟩
          go_wp2
          go_ret2
          exact ⟨_, [], false, rfl, Terms.nil _, by rw [hz'.out]; rfl, (fun r hr => by cases hr), by simp, er.trans h3⟩
        | true =>
          have h4 := (rightS_iff.1 hRi).1
          rw [← hRt.out, List.length_map] at h4
          rw [hRi] at CR
          by_cases hq : textS (termsL t.data.toList) = t.data.toList
          · have hz' := Lib.hid (parseS_good h45.out hRi hq)
            have hqb : ((⟨(textS (termsL t.data.toList)).toArray⟩ : ByteArray).toList == t.toList) = true := by rw [ByteArray.toList_eq, ByteArray.toList_eq, beq_iff_eq]; exact hq
            have hqb' : (⟨(textS (termsL t.data.toList)).toArray⟩ : ByteArray).toList = t.toList := by rw [ByteArray.toList_eq, ByteArray.toList_eq]; exact hq
            clear hRi hq
            generalize (⟨(textS (termsL t.data.toList)).toArray⟩ : ByteArray) = T at *
            replace CT := Lib.hid CT
            go_wp2_with fail
            refine CR.mono ?_; rintro e w3 ⟨rfl, h3⟩
            go_wp2_with fail
            refine (CT.out w3 h3).mono ?_; rintro e w4 ⟨rfl, h4⟩
            go_wp2
            go_ret2
            exact ⟨_, R, true, rfl, (hT.ext h3).ext h4, by rw [hz'.out, hRt.out], hF, by assumption, er.trans (h3.trans h4)⟩
          · have hz' := Lib.hid (parseS_other h45.out hq)
            have hqb : ((⟨(textS (termsL t.data.toList)).toArray⟩ : ByteArray).toList == t.toList) = false := by rw [ByteArray.toList_eq, ByteArray.toList_eq, beq_eq_false_iff_ne]; exact hq
            have hqb' : ¬ (⟨(textS (termsL t.data.toList)).toArray⟩ : ByteArray).toList = t.toList := by rw [ByteArray.toList_eq, ByteArray.toList_eq]; exact hq
            clear hRi hq
            generalize (⟨(textS (termsL t.data.toList)).toArray⟩ : ByteArray) = T at *
            replace CT := Lib.hid CT
            go_wp2_with fail
            refine CR.mono ?_; rintro e w3 ⟨rfl, h3⟩
            go_wp2_with fail
            refine (CT.out w3 h3).mono ?_; rintro e w4 ⟨rfl, h4⟩
            go_wp2
            go_ret2
            exact ⟨_, [], false, rfl, Terms.nil _, by rw [hz'.out]; rfl, (fun r hr => by cases hr), by simp, er.trans (h3.trans h4)⟩

end Go.Proofs.YtbkemhheombfcaaDoor
