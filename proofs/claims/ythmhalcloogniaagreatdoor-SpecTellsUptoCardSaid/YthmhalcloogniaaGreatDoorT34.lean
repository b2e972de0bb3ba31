/- Texts one behind the other: Chapter 4: the walks of the document's Cut and Parse; Chapter 5: the walk of the document's one. -/
import Derived.Test.YthmhalcloogniaaGreatDoorT25
import Derived.Test.YthmhalcloogniaaGreatDoorT33
import Derived.Test.YthmhalcloogniaaGreatDoorT30
namespace Go.Dm
open Go Go.RowKit

theorem byte_get {l : Bs} {i : Nat} (h : i < l.length) : bAt l i = (l[i]).toNat := by
  simp [bAt, List.getD_eq_getElem?_getD, h]
theorem drop_cut {l : Bs} {f i : Nat} (hf : f ≤ i) (hi : i < l.length) : l.drop f = (l.drop f).take (i - f) ++ l[i] :: l.drop (i + 1) := by
  have h1 := List.take_append_drop (i - f) (l.drop f)
  rw [List.drop_drop, show f + (i - f) = i by omega, List.drop_eq_getElem_cons hi] at h1
  exact h1.symm
theorem bytesOf_snoc {xs : List ByteArray} {x : ByteArray} : bytesOf (xs ++ [x]) = bytesOf xs ++ [x.data.toList] := by simp [bytesOf]
/-- Where the cutting of a text at c stands: pieces behind it, the next one begun at f, looked through up to i. -/
def CS (c : UInt8) (l : Bs) (out : List Bs) (f i : Nat) : Prop :=
  i ≤ l.length + 1 ∧ (i ≤ l.length → f ≤ i ∧ c ∉ (l.drop f).take (i - f) ∧ splitC c l = out ++ splitC c (l.drop f)) ∧ (l.length < i → splitC c l = out)

theorem CS.start (c : UInt8) (l : Bs) : CS c l [] 0 0 := ⟨by omega, fun _ => ⟨by omega, by simp, by simp⟩, fun h => by omega⟩
theorem CS.on {c : UInt8} {l : Bs} {out : List Bs} {f i : Nat} (h : CS c l out f i) (hi : i < l.length) (hb : bAt l i ≠ c.toNat) : CS c l out f (i + 1) := by
  obtain ⟨_, h4, _⟩ := h
  obtain ⟨g1, g2, g3⟩ := h4 (by omega)
  refine ⟨by omega, fun _ => ⟨by omega, ?_, g3⟩, fun h => by omega⟩
  have hlt : i - f < (l.drop f).length := by rw [List.length_drop]; omega
  rw [show i + 1 - f = (i - f) + 1 by omega, List.take_succ_eq_append_getElem hlt, List.mem_append, List.mem_singleton]
  rintro (h | h)
  · exact g2 h
  · rw [List.getElem_drop] at h
    apply hb
    rw [byte_get hi]
    have : l[f + (i - f)] = l[i] := by congr 1; omega
    rw [← this, ← h]
theorem CS.next {c : UInt8} {l : Bs} {out : List Bs} {f i : Nat} (h : CS c l out f i) (hi : i = l.length ∨ (i < l.length ∧ bAt l i = c.toNat)) : CS c l (out ++ [(l.drop f).take (i - f)]) (i + 1) (i + 1) := by
  obtain ⟨_, h4, _⟩ := h
  rcases hi with rfl | ⟨hi, hb⟩
  · obtain ⟨g1, g2, g3⟩ := h4 (by omega)
    have he : (l.drop f).take (l.length - f) = l.drop f := List.take_of_length_le (by rw [List.length_drop]; omega)
    rw [he] at g2 ⊢
    exact ⟨by omega, fun h => by omega, fun _ => by rw [g3, splitC_none g2]⟩
  · obtain ⟨g1, g2, g3⟩ := h4 (by omega)
    have hc := drop_cut g1 hi
    have h47 : l[i] = c := UInt8.toNat_inj.1 (by rw [← byte_get hi, hb])
    rw [h47] at hc
    refine ⟨by omega, fun _ => ⟨by omega, by simp, ?_⟩, fun h => by omega⟩
    rw [g3, List.append_assoc]
    congr 1
    conv => lhs; rw [hc]
    exact splitC_at g2
theorem CS.done {c : UInt8} {l : Bs} {out : List Bs} {f i : Nat} (h : CS c l out f i) (hi : l.length < i) : splitC c l = out := h.2.2 hi

end Go.Dm
namespace Go.Proofs.YthmhalcloogniaaGreatDoor
open Go.RowKit Go.Dm

set_option maxHeartbeats 4000000 in
theorem mcutF_w (s : ByteArray) (c : UInt8) (k : Int) (w : World) (hk : k = (c.toNat : Int)) (hs : s.size ≤ 1048576) :
    Calls Tryz.prog 90 #[.string s, .int .u8 k] w fun e w' => ∃ r, e = .returned r ∧ Texts w' r (splitC c s.data.toList) ∧ (∀ b, r.ownBlock = some b → w.heap.size ≤ b) ∧ Ext w w' := by
  go_enter Tryz.func90, Tryz.ntmps90
  go_wp2
  go_loopw [5, 6, 7] (fun v f' i' wr => ∃ (f i : Nat) (xs : List ByteArray), f' = .int .i64 f ∧ i' = .int .i64 i ∧ i ≤ s.size + 1 ∧ f ≤ i ∧ xs.length ≤ i ∧ Ext w wr ∧ wr.ownsRow w.heap.size 9 1 v xs.length (xs.map .string) ∧ Hid (CS c s.data.toList (bytesOf xs) f i)) (fun _ _ i' _ => s.size + 1 - (intOf i').toNat)
  case atStart => exact ⟨0, 0, [], rfl, rfl, by omega, by omega, by simp, Ext.refl _, World.ownsRow_nil _ _ _ _, CS.start _ _⟩
  case round =>
    obtain ⟨f, i, xs, rfl, rfl, hi, hf, hxl, hb, ho, HP⟩ := hrel
    by_cases hle : i ≤ s.size
    · have hxd : (s.extract f i).data.toList = (s.data.toList.drop f).take (i - f) := Lib.extract_data s f i
      have hnext : (i = s.data.toList.length ∨ (i < s.data.toList.length ∧ bAt s.data.toList i = c.toNat)) → Hid (CS c s.data.toList (bytesOf (xs ++ [s.extract f i])) (i + 1) (i + 1)) := fun h => by
        have := HP.out.next h
        rw [← hxd, ← bytesOf_snoc] at this
        exact this
      have ho4 := Ext.row ho ((Ext.refl wr).alloc (.cells #[.string (s.extract f i)] 9))
      have hb4 := hb.trans ((Ext.refl wr).alloc (.cells #[.string (s.extract f i)] 9))
      have hl4 := Sl.lit wr 9 1 1 #[.string (s.extract f i)] rfl (by simp [maxLen])
      clear hxd
      by_cases hlt : i < s.size
      · obtain ⟨b, hbt⟩ : ∃ b : Int, ((s[i]'hlt).toNat : Int) = b := ⟨_, rfl⟩
        by_cases hbk : b = k
        · have hst := hnext (Or.inr ⟨hlt, by rw [← sAt hlt]; omega⟩)
          have hbn : (b == k) = true := by rw [beq_iff_eq]; exact hbk
          have hin : ((i : Int) == (s.size : Int)) = false := by rw [beq_eq_false_iff_ne]; omega
          clear hnext ho hbk hk
          go_wp2_with (at_builtin; refine wpList_appE rfl _ _ Tryz.slStr rfl hb4 rfl ho4 rfl hl4 (strs_one [s.extract f i]) (by omega) ?_; intro v5 w5 ho5 hb5 _)
          go_roundw
          case rel => exact ⟨i + 1, i + 1, xs ++ [s.extract f i], by go_num, by go_num, by omega, by omega, by simp; omega, hb5, by rw [List.length_append, List.map_append]; exact ho5, hst⟩
          case measure => simp [intOf]; omega
        · have hst := Lib.hid (HP.out.on hlt (by rw [← sAt hlt]; omega))
          have hbn : (b == k) = false := by rw [beq_eq_false_iff_ne]; exact hbk
          have hin : ((i : Int) == (s.size : Int)) = false := by rw [beq_eq_false_iff_ne]; omega
          clear hnext ho4 hb4 hl4 hbk hk
          go_wp2
          go_roundw
          case rel => exact ⟨f, i + 1, xs, rfl, by go_num, by omega, by omega, by omega, hb, ho, hst⟩
          case measure => simp [intOf]; omega
      · have hst := hnext (Or.inl (show i = s.size by omega))
        have hin : ((i : Int) == (s.size : Int)) = true := by rw [beq_iff_eq]; omega
        clear hnext ho hk
        go_wp2_with (at_builtin; refine wpList_appE rfl _ _ Tryz.slStr rfl hb4 rfl ho4 rfl hl4 (strs_one [s.extract f i]) (by omega) ?_; intro v5 w5 ho5 hb5 _)
        go_roundw
        case rel => exact ⟨i + 1, i + 1, xs ++ [s.extract f i], by go_num, by go_num, by omega, by omega, by simp; omega, hb5, by rw [List.length_append, List.map_append]; exact ho5, hst⟩
        case measure => simp [intOf]; omega
    · have hz := Lib.hid (HP.out.done (show s.size < i by omega))
      go_wp2
      go_ret
      exact ⟨_, rfl, ⟨xs, Strs.of_row ho rfl, hz.out.symm⟩, (fun b hb' => (World.ownsRow.lt ho b hb').1), hb⟩

theorem mcut_w (s : ByteArray) (c : UInt8) (k : Int) (w : World) (hk : k = (c.toNat : Int)) (hs : s.size ≤ 1048576) :
    Calls Tryz.prog 90 #[.string s, .int .u8 k] w fun e w' => ∃ r, e = .returned r ∧ Texts w' r (splitC c s.data.toList) ∧ Ext w w' :=
  (mcutF_w s c k w hk hs).mono fun _ _ ⟨r, h1, h2, _, h3⟩ => ⟨r, h1, h2, h3⟩

end Go.Proofs.YthmhalcloogniaaGreatDoor

namespace Go.Dm
open Go Go.RowKit
theorem bytesOf_two {ss : List ByteArray} {p r : Bs} (h : bytesOf ss = [p, r]) : ss = [⟨p.toArray⟩, ⟨r.toArray⟩] := by
  match ss, h with
  | [a, b], h =>
    simp only [bytesOf, List.map_cons, List.map_nil, List.cons.injEq, and_true] at h
    rw [mk_bytes h.1, mk_bytes h.2]
end Go.Dm
namespace Go.Proofs.YthmhalcloogniaaGreatDoor
open Go.RowKit Go.Dm

set_option maxHeartbeats 8000000 in
set_option maxRecDepth 100000 in
theorem smone_w (x : ByteArray) (w : World) (hs : x.size ≤ 1048576) :
    Calls Tryz.prog 91 #[.string x] w fun e w' => ∃ r : RowS, e = .returned (.agg #[.string r.1, .bool r.2.1, r.2.2.1]) ∧ rowT r = mkT (oneL x.data.toList) ∧ Strs w' r.2.2.1 r.2.2.2 ∧ (∀ b, r.2.2.1.ownBlock = some b → w.heap.size ≤ b) ∧ Ext w w' := by
  have hW : Ext w (w.alloc (.cells #[.string ⟨#[]⟩, .bool false, .slice none 0 0] 121)) := (Ext.refl _).alloc _
  have K0 := Cell3.new w (.string ⟨#[]⟩) (.bool false) (.slice none 0 0) 121
  have C1 := fun U => mcutF_w x 61 61 U rfl hs
  by_cases h0 : 0 < x.size
  · have hix := pre33_idx h0
    have h0d : decide ((0 : Int) < (x.size : Int)) = true := decide_eq_true (by omega)
    cases hp : pre33 x with
    | true =>
      rw [hp] at hix
      have hz : Hid (mkT (oneL x.data.toList) = (x.extract 1 x.size, true, [])) := by
        show _ = _
        rw [oneL_pre (by simpa [pre33] using hp), mk_drop]; rfl
      have K1 := Cell3.new w (.string (x.extract 1 x.size)) (.bool true) (.slice none 0 0) 121
      have hB : Ext w (w.alloc (.cells #[.string (x.extract 1 x.size), .bool true, .slice none 0 0] 121)) := (Ext.refl _).alloc _
      clear hp C1 hW K0
      go_enter Tryz.func91, Tryz.ntmps91
      go_wp2
      obtain ⟨_, k0, k1, k2, _, _, _⟩ := K1
      refine bodyPost_ret (v := .agg #[.string (x.extract 1 x.size), .bool true, .slice none 0 0]) (by simp [results, Tryz.results91, go_sem]) rfl ?_
      exact ⟨(x.extract 1 x.size, true, .slice none 0 0, []), rfl, by rw [hz.out]; rfl, Strs.nil _, (fun b hb => by cases hb), hB⟩
    | false =>
      rw [hp] at hix
      have hnp : ¬ x.data.toList.head? = some 33 := by simpa [pre33] using hp
      have hO := Lib.hid (fun h => oneL_other hnp h)
      have hT := Lib.hid (fun p r h => oneL_two (p := p) (r := r) hnp h)
      replace C1 := Lib.hid C1
      clear hp hnp
      go_enter Tryz.func91, Tryz.ntmps91
      go_wp2_with fail
      refine (C1.out _).mono ?_; rintro e w1 ⟨r1, rfl, ⟨ss, hss, hsb⟩, _, h1⟩
      obtain ⟨qs, cs, rfl, _, _⟩ := hss.shape
      have K1 := K0.ext h1
      have E1 := hW.trans h1
      clear C1 hW K0 h1
      by_cases h2 : ss.length = 2
      · obtain ⟨p, r, hpr⟩ : ∃ p r, splitC 61 x.data.toList = [p, r] := by
          have h3 : (splitC 61 x.data.toList).length = 2 := by rw [← hsb]; simpa [bytesOf] using h2
          match splitC 61 x.data.toList, h3 with
          | [p, r], _ => exact ⟨p, r, rfl⟩
        have hpl : p.length ≤ x.data.toList.length := mem_splitC_len (c := 61) (by rw [hpr]; simp)
        have hrl : r.length ≤ x.data.toList.length := mem_splitC_len (c := 61) (by rw [hpr]; simp)
        rw [hpr] at hsb
        have hsse := bytesOf_two hsb
        have hTT := hT.out p r hpr
        obtain ⟨bs, os, rfl, hbs, d0⟩ := hss.at (k := 0) (by omega)
        obtain ⟨_, d1⟩ := hss.cells (k := 1) (by omega)
        have a0 : strAt ss 0 = ⟨p.toArray⟩ := by rw [hsse]; rfl
        have a1 : strAt ss 1 = ⟨r.toArray⟩ := by rw [hsse]; rfl
        rw [a0, Nat.add_zero] at d0
        rw [a1] at d1
        have hxl : x.data.toList.length = x.size := rfl
        have hps : (⟨p.toArray⟩ : ByteArray).size ≤ 1048576 := by show p.length ≤ _; omega
        have hrs : (⟨r.toArray⟩ : ByteArray).size ≤ 1048576 := by show r.length ≤ _; omega
        have hpd : p = (⟨p.toArray⟩ : ByteArray).data.toList := rfl
        have hrd : r = (⟨r.toArray⟩ : ByteArray).data.toList := rfl
        have h2' : ((ss.length : Int) == 2) = true := by rw [beq_iff_eq]; omega
        rw [hpd, hrd] at hTT
        generalize (⟨p.toArray⟩ : ByteArray) = PB at *
        generalize (⟨r.toArray⟩ : ByteArray) = RB at *
        replace hTT := Lib.hid hTT
        have hge : 2 ≤ ss.length := by omega
        have hge0 : 0 < ss.length := by omega
        have hge1 : (1 : Int) < (ss.length : Int) := by omega
        replace h2 := Lib.hid h2
        clear hpd hrd hpl hrl hsb hsse a0 a1 hxl hT hO hpr hss
        go_wp2_with fail
        try simp only [Act.put, List.setIfInBounds_toArray, List.set_cons_succ, List.set_cons_zero]
        refine Dm.wp_region_ext 10 (Dm.bits 10 0) (Ext.refl w1) (by kernel_rfl) (by kernel_rfl) (by kernel_rfl) ?_
        refine Dm.wpE_take (i := 0) (listed' := (Dm.bits 10 1)) (by kernel_rfl) (by kernel_rfl) rfl (fun _ _ _ _ h => h) ?_; apply Exists.intro; refine And.intro (fun x => ?_) ?_
        · go_big_quiet_step (fail); exact wpQuiet_nil rfl
        refine Dm.wpE_take (i := 1) (listed' := (Dm.bits 10 3)) (by kernel_rfl) (by kernel_rfl) rfl (fun _ _ _ _ h => h) ?_; apply Exists.intro; refine And.intro (fun x => ?_) ?_
        · go_big_quiet_step (fail); exact wpQuiet_nil rfl
        refine Dm.wpE_take (i := 2) (listed' := (Dm.bits 10 7)) (by kernel_rfl) (by kernel_rfl) rfl (fun _ _ _ _ h => h) ?_; apply Exists.intro; refine And.intro (fun x => ?_) ?_
        · go_big_quiet_step (fail); exact wpQuiet_nil rfl
        refine Dm.wpE_take (i := 3) (listed' := (Dm.bits 10 15)) (by kernel_rfl) (by kernel_rfl) rfl (fun _ _ _ _ h => h) ?_; apply Exists.intro; refine And.intro (fun x => ?_) ?_
        · go_big_quiet_step (fail); exact wpQuiet_nil rfl
        refine Dm.wpE_take (i := 4) (listed' := (Dm.bits 10 31)) (by kernel_rfl) (by kernel_rfl) rfl (fun _ _ _ _ h => h) ?_; apply Exists.intro; refine And.intro (fun x => ?_) ?_
        · go_big_quiet_step (fail); exact wpQuiet_nil rfl
        refine Dm.wpE_take (i := 5) (listed' := (Dm.bits 10 63)) (by kernel_rfl) (by kernel_rfl) rfl (fun _ _ _ _ h => h) ?_; apply Exists.intro; refine And.intro (fun x => ?_) ?_
        · go_big_quiet_step (fail); exact wpQuiet_nil rfl
        refine Dm.wpE_two (i := 6) (j := 8) (li := (Dm.bits 10 127)) (lj := (Dm.bits 10 319)) (by kernel_rfl) (by kernel_rfl) (by kernel_rfl) rfl rfl (Ext.refl w1) (fun w1a hx1a => ?_) (fun w1a hx1a => ?_)
        ·
          have hX1a := Ext.trans (Ext.refl w1) hx1a
          have hls6 := hx1a.size
          have hws6 := hX1a.size
          go_wp2_with fail
          refine (mcutF_w RB 124 124 w1a rfl hrs).mono ?_; rintro e w1b ⟨r2, rfl, ⟨vs, hvs, hvb⟩, hfr, hs1⟩
          obtain ⟨q3, cap3, rfl, _, _⟩ := hvs.shape
          have hvne : vs.length ≠ 0 := fun e => by
            have := splitC_ne 124 RB.data.toList
            rw [← hvb, List.length_eq_zero_iff.1 e] at this
            exact this rfl
          have hown : ∀ b, (Value.slice q3 vs.length cap3).ownBlock = some b → b < w1b.heap.size := fun b hb => Sl.own_lt hvs hvne hb
          have hX1b := Ext.trans hX1a hs1
          replace hvb := Lib.hid hvb
          replace hvne := Lib.hid hvne
          go_wp2_with fail
          try simp only [Exit.then, Act.put, List.setIfInBounds_toArray, List.set_cons_succ, List.set_cons_zero]
          refine Dm.wpE_take (i := 7) (listed' := (Dm.bits 10 255)) (by kernel_rfl) (by kernel_rfl) rfl (fun _ _ _ _ h => h) ?_; apply Exists.intro; refine And.intro (fun x => ?_) ?_
          · go_big_quiet_step (fail); exact wpQuiet_nil rfl
          refine Dm.wpE_one (i := 8) (listed' := (Dm.bits 10 511)) (by kernel_rfl) (by kernel_rfl) rfl hX1b (fun w2a hx2a => ?_)
          have hX2a := Ext.trans hX1b hx2a
          replace hvs := hvs.ext hx2a
          have hls8 := hx2a.size
          have hC := Cell3.new w2a (.string ⟨#[]⟩) (.bool false) (.slice none 0 0) 121
          have hs2 := (Ext.refl w2a).alloc (.cells #[.string ⟨#[]⟩, .bool false, .slice none 0 0] 121)
          obtain ⟨cb, hcb⟩ : ∃ cb, cb = w2a.heap.size := ⟨_, rfl⟩
          have hcl : w1.heap.size ≤ cb := by rw [hcb]; exact hX2a.size
          go_wp2_with fail
          generalize w2a.alloc (.cells #[.string ⟨#[]⟩, .bool false, .slice none 0 0] 121) = w2b at *
          have hcbl : w2a.heap.size ≤ cb := by omega
          have hcbg : cb ≤ w2a.heap.size := by omega
          rw [← hcb] at hC
          try rw [← hcb]
          clear hcb
          have hcb2 : cb < w2b.heap.size := hC.lt
          have hX2b := Ext.trans hX2a hs2
          replace hvs := hvs.ext hs2
          try simp only [Exit.then, Act.put, List.setIfInBounds_toArray, List.set_cons_succ, List.set_cons_zero]
          refine Dm.wpE_one (i := 9) (listed' := (Dm.bits 10 1023)) (by kernel_rfl) (by kernel_rfl) rfl hX2b (fun w3a hx3a => ?_)
          have hX3a := Ext.trans hX2b hx3a
          replace hvs := hvs.ext hx3a
          replace hC := hC.ext hx3a
          have hne : ∀ b, (Value.slice q3 vs.length cap3).ownBlock = some b → b ≠ cb := fun b hb => by have h1 := hfr b hb; have h2 := hown b hb; omega
          have hC2 := hC.put (.string PB) (.bool false) (.slice q3 vs.length cap3)
          have hvs2 : Strs (((w3a.setCell ⟨cb, 0, none⟩ (.string PB)).setCell ⟨cb, 1, none⟩ (.bool false)).setCell ⟨cb, 2, none⟩ (.slice q3 vs.length cap3)) (.slice q3 vs.length cap3) vs := Sl.grown hvs (grown_trans (grown_trans (grown_set w3a cb 0 (.string PB)) (grown_set _ cb 1 (.bool false))) (grown_set _ cb 2 (.slice q3 vs.length cap3))) (Or.inr fun c e e2 => hne c e (Option.some.inj e2).symm)
          have hX2 : Ext w1 (((w3a.setCell ⟨cb, 0, none⟩ (.string PB)).setCell ⟨cb, 1, none⟩ (.bool false)).setCell ⟨cb, 2, none⟩ (.slice q3 vs.length cap3)) := below_put3 hX3a hcl _ _ _
          obtain ⟨_, y1, y2, y3, y4, y5, y6⟩ := id hC
          go_wp2_with fail
          generalize ((w3a.setCell ⟨cb, 0, none⟩ (.string PB)).setCell ⟨cb, 1, none⟩ (.bool false)).setCell ⟨cb, 2, none⟩ (.slice q3 vs.length cap3) = w3b at *
          have hX3b := hX2
          clear y1 y2 y3 y4 y5 y6 hC hX2 hvs
          try simp only [Exit.then, Act.put, List.setIfInBounds_toArray, List.set_cons_succ, List.set_cons_zero]
          refine Dm.wpE_done (by kernel_rfl) hX3b (fun w4a hx4a => ?_)
          have hX4a := Ext.trans hX3b hx4a
          replace hC2 := hC2.ext hx4a
          replace hvs2 := hvs2.ext hx4a
          have hwb : w.heap.size < w1.heap.size := K1.lt
          have hwf : Hid (∀ b, (Value.slice q3 vs.length cap3).ownBlock = some b → w.heap.size ≤ b) := fun b hb => by have h1 := hfr b hb; omega
          have hnb : ∀ b, (Value.slice q3 vs.length cap3).ownBlock = some b → b ≠ w.heap.size := fun b hb => by have h1 := hfr b hb; omega
          have hvm : Hid (∀ (K : ByteArray) (no : Bool), mkT (oneL x.data.toList) = mkT (K.data.toList, no, splitC 124 RB.data.toList) → mkT (oneL x.data.toList) = (K, no, vs)) := fun K no h => by
            rw [h, ← hvb.out]
            show ((⟨K.data.toList.toArray⟩ : ByteArray), no, (bytesOf vs).map fun x => (⟨x.toArray⟩ : ByteArray)) = _
            rw [Array.toArray_toList, bytesOf, List.map_map]
            have : vs.map ((fun x : Bs => (⟨x.toArray⟩ : ByteArray)) ∘ fun x => x.data.toList) = vs := by
              conv => rhs; rw [← List.map_id vs]
              exact List.map_congr_left fun y _ => by show (⟨y.data.toList.toArray⟩ : ByteArray) = y; rw [Array.toArray_toList]
            rw [this]
          have K9 := K1.ext hX4a
          have E9 := E1.trans hX4a
          have hc9 : w.heap.size ≠ cb := by omega
          have hcw : w.heap.size ≤ cb := by omega
          clear hfr hown hcl
          by_cases hP0 : 0 < PB.size
          · have hsi := suf33_idx (x := PB) (by omega)
            have hPd : decide ((0 : Int) < (PB.size : Int)) = true := decide_eq_true (by omega)
            have hPw : IntKind.i64.wrap ((PB.size : Int) - 1) = ((PB.size - 1 : Nat) : Int) := by rw [IntKind.wrap_i64]; omega
            cases hsf : suf33 PB with
            | true =>
              rw [hsf] at hsi
              have hfin : Hid (mkT (oneL x.data.toList) = (PB.extract 0 (PB.size - 1), true, vs)) := hvm.out _ _ (by rw [hTT.out, if_pos (by simpa [suf33] using hsf), mk_dropLast])
              have hC3 := (hC2.set0 (.string (PB.extract 0 (PB.size - 1)))).set1 (.bool true)
              have K10 := ((K9.far (c := cb) (i := 0) (Ne.symm hc9) (.string (PB.extract 0 (PB.size - 1)))).far (c := cb) (i := 1) (Ne.symm hc9) (.bool true))
              have hvs3 : Strs ((w4a.setCell ⟨cb, 0, none⟩ (.string (PB.extract 0 (PB.size - 1)))).setCell ⟨cb, 1, none⟩ (.bool true)) (.slice q3 vs.length cap3) vs := Sl.grown hvs2 (grown_trans (grown_set w4a cb 0 (.string (PB.extract 0 (PB.size - 1)))) (grown_set _ cb 1 (.bool true))) (Or.inr fun c e e2 => hne c e (Option.some.inj e2).symm)
              have E10 : Ext w ((w4a.setCell ⟨cb, 0, none⟩ (.string (PB.extract 0 (PB.size - 1)))).setCell ⟨cb, 1, none⟩ (.bool true)) := (E9.setCell (p := ⟨cb, 0, none⟩) hcw _).setCell (p := ⟨cb, 1, none⟩) hcw _
              have K11 := K10.put (.string (PB.extract 0 (PB.size - 1))) (.bool true) (.slice q3 vs.length cap3)
              have hvs4 : Strs (((((w4a.setCell ⟨cb, 0, none⟩ (.string (PB.extract 0 (PB.size - 1)))).setCell ⟨cb, 1, none⟩ (.bool true)).setCell ⟨w.heap.size, 0, none⟩ (.string (PB.extract 0 (PB.size - 1)))).setCell ⟨w.heap.size, 1, none⟩ (.bool true)).setCell ⟨w.heap.size, 2, none⟩ (.slice q3 vs.length cap3)) (.slice q3 vs.length cap3) vs := Sl.grown hvs3 (grown_trans (grown_trans (grown_set _ w.heap.size 0 (.string (PB.extract 0 (PB.size - 1)))) (grown_set _ w.heap.size 1 (.bool true))) (grown_set _ w.heap.size 2 (.slice q3 vs.length cap3))) (Or.inr fun c e e2 => hnb c e (Option.some.inj e2).symm)
              have E11 : Ext w (((((w4a.setCell ⟨cb, 0, none⟩ (.string (PB.extract 0 (PB.size - 1)))).setCell ⟨cb, 1, none⟩ (.bool true)).setCell ⟨w.heap.size, 0, none⟩ (.string (PB.extract 0 (PB.size - 1)))).setCell ⟨w.heap.size, 1, none⟩ (.bool true)).setCell ⟨w.heap.size, 2, none⟩ (.slice q3 vs.length cap3)) := below_put3 E10 (Nat.le_refl _) _ _ _
              obtain ⟨_, x0, x1, x2, x3, x4, x5⟩ := id hC2
              obtain ⟨_, y0, y1, y2, y3, y4, y5⟩ := hC3
              obtain ⟨_, z0, z1, z2, z3, z4, z5⟩ := id K10
              have x4' : (w4a.setCell ⟨cb, 0, none⟩ (.string (PB.extract 0 (PB.size - 1)))).frozen? ⟨cb, 1, none⟩ = false := by rw [World.frozen?_setCell]; exact x4
              have x1' : (w4a.setCell ⟨cb, 0, none⟩ (.string (PB.extract 0 (PB.size - 1)))).cell? ⟨cb, 1, none⟩ = some (.bool false) := cell_set_ne x1 (by decide)
              clear hvm hne hnb hc9 hC2 K9 K1 E9 E1
              go_wp2
              obtain ⟨_, k0, k1, k2, _, _, _⟩ := K11
              refine bodyPost_ret (v := .agg #[.string (PB.extract 0 (PB.size - 1)), .bool true, .slice q3 vs.length cap3]) (by simp [results, Tryz.results91, go_sem, k0, k1, k2]) rfl ?_
              exact ⟨((PB.extract 0 (PB.size - 1)), true, .slice q3 vs.length cap3, vs), rfl, by rw [hfin.out]; rfl, hvs4, hwf.out, E11⟩
            | false =>
              rw [hsf] at hsi
              have hfin : Hid (mkT (oneL x.data.toList) = (PB, false, vs)) := hvm.out _ _ (by rw [hTT.out, if_neg (by simpa [suf33] using hsf)])
              have K10 := K9
              have K11 := K10.put (.string PB) (.bool false) (.slice q3 vs.length cap3)
              have hvs4 : Strs (((w4a.setCell ⟨w.heap.size, 0, none⟩ (.string PB)).setCell ⟨w.heap.size, 1, none⟩ (.bool false)).setCell ⟨w.heap.size, 2, none⟩ (.slice q3 vs.length cap3)) (.slice q3 vs.length cap3) vs := Sl.grown hvs2 (grown_trans (grown_trans (grown_set _ w.heap.size 0 (.string PB)) (grown_set _ w.heap.size 1 (.bool false))) (grown_set _ w.heap.size 2 (.slice q3 vs.length cap3))) (Or.inr fun c e e2 => hnb c e (Option.some.inj e2).symm)
              have E11 : Ext w (((w4a.setCell ⟨w.heap.size, 0, none⟩ (.string PB)).setCell ⟨w.heap.size, 1, none⟩ (.bool false)).setCell ⟨w.heap.size, 2, none⟩ (.slice q3 vs.length cap3)) := below_put3 E9 (Nat.le_refl _) _ _ _
              obtain ⟨_, x0, x1, x2, x3, x4, x5⟩ := id hC2
              obtain ⟨_, z0, z1, z2, z3, z4, z5⟩ := id K10
              clear hvm hne hnb hc9 hC2 K9 K1 E9 E1
              go_wp2
              obtain ⟨_, k0, k1, k2, _, _, _⟩ := K11
              refine bodyPost_ret (v := .agg #[.string PB, .bool false, .slice q3 vs.length cap3]) (by simp [results, Tryz.results91, go_sem, k0, k1, k2]) rfl ?_
              exact ⟨(PB, false, .slice q3 vs.length cap3, vs), rfl, by rw [hfin.out]; rfl, hvs4, hwf.out, E11⟩
          · have hPd : decide ((0 : Int) < (PB.size : Int)) = false := decide_eq_false (by omega)
            have hsf : suf33 PB = false := suf33_short (by omega)
            have hfin : Hid (mkT (oneL x.data.toList) = (PB, false, vs)) := hvm.out _ _ (by rw [hTT.out, if_neg (by simpa [suf33] using hsf)])
            have K10 := K9
            have K11 := K10.put (.string PB) (.bool false) (.slice q3 vs.length cap3)
            have hvs4 : Strs (((w4a.setCell ⟨w.heap.size, 0, none⟩ (.string PB)).setCell ⟨w.heap.size, 1, none⟩ (.bool false)).setCell ⟨w.heap.size, 2, none⟩ (.slice q3 vs.length cap3)) (.slice q3 vs.length cap3) vs := Sl.grown hvs2 (grown_trans (grown_trans (grown_set _ w.heap.size 0 (.string PB)) (grown_set _ w.heap.size 1 (.bool false))) (grown_set _ w.heap.size 2 (.slice q3 vs.length cap3))) (Or.inr fun c e e2 => hnb c e (Option.some.inj e2).symm)
            have E11 : Ext w (((w4a.setCell ⟨w.heap.size, 0, none⟩ (.string PB)).setCell ⟨w.heap.size, 1, none⟩ (.bool false)).setCell ⟨w.heap.size, 2, none⟩ (.slice q3 vs.length cap3)) := below_put3 E9 (Nat.le_refl _) _ _ _
            obtain ⟨_, x0, x1, x2, x3, x4, x5⟩ := id hC2
            obtain ⟨_, z0, z1, z2, z3, z4, z5⟩ := id K10
            clear hvm hne hnb hc9 hC2 K9 K1 E9 E1
            go_wp2
            obtain ⟨_, k0, k1, k2, _, _, _⟩ := K11
            refine bodyPost_ret (v := .agg #[.string PB, .bool false, .slice q3 vs.length cap3]) (by simp [results, Tryz.results91, go_sem, k0, k1, k2]) rfl ?_
            exact ⟨(PB, false, .slice q3 vs.length cap3, vs), rfl, by rw [hfin.out]; rfl, hvs4, hwf.out, E11⟩
        ·
          have hX1a := Ext.trans (Ext.refl w1) hx1a
          have hls8 := hx1a.size
          have hC := Cell3.new w1a (.string ⟨#[]⟩) (.bool false) (.slice none 0 0) 121
          have hs1 := (Ext.refl w1a).alloc (.cells #[.string ⟨#[]⟩, .bool false, .slice none 0 0] 121)
          obtain ⟨cb, hcb⟩ : ∃ cb, cb = w1a.heap.size := ⟨_, rfl⟩
          have hcl : w1.heap.size ≤ cb := by rw [hcb]; exact hX1a.size
          go_wp2_with fail
          generalize w1a.alloc (.cells #[.string ⟨#[]⟩, .bool false, .slice none 0 0] 121) = w1b at *
          have hcbl : w1a.heap.size ≤ cb := by omega
          have hcbg : cb ≤ w1a.heap.size := by omega
          rw [← hcb] at hC
          try rw [← hcb]
          clear hcb
          have hcb2 : cb < w1b.heap.size := hC.lt
          have hX1b := Ext.trans hX1a hs1
          try simp only [Exit.then, Act.put, List.setIfInBounds_toArray, List.set_cons_succ, List.set_cons_zero]
          refine Dm.wpE_one (i := 6) (listed' := (Dm.bits 10 383)) (by kernel_rfl) (by kernel_rfl) rfl hX1b (fun w5a hx5a => ?_)
          have hX5a := Ext.trans hX1b hx5a
          replace hC := hC.ext hx5a
          have hls6 := hx5a.size
          have hws6 := hX5a.size
          go_wp2_with fail
          refine (mcutF_w RB 124 124 w5a rfl hrs).mono ?_; rintro e w5b ⟨r2, rfl, ⟨vs, hvs, hvb⟩, hfr, hs5⟩
          obtain ⟨q3, cap3, rfl, _, _⟩ := hvs.shape
          have hvne : vs.length ≠ 0 := fun e => by
            have := splitC_ne 124 RB.data.toList
            rw [← hvb, List.length_eq_zero_iff.1 e] at this
            exact this rfl
          have hown : ∀ b, (Value.slice q3 vs.length cap3).ownBlock = some b → b < w5b.heap.size := fun b hb => Sl.own_lt hvs hvne hb
          have hX5b := Ext.trans hX5a hs5
          replace hvb := Lib.hid hvb
          replace hvne := Lib.hid hvne
          go_wp2_with fail
          replace hC := hC.ext hs5
          try simp only [Exit.then, Act.put, List.setIfInBounds_toArray, List.set_cons_succ, List.set_cons_zero]
          refine Dm.wpE_take (i := 7) (listed' := (Dm.bits 10 511)) (by kernel_rfl) (by kernel_rfl) rfl (fun _ _ _ _ h => h) ?_; apply Exists.intro; refine And.intro (fun x => ?_) ?_
          · go_big_quiet_step (fail); exact wpQuiet_nil rfl
          refine Dm.wpE_one (i := 9) (listed' := (Dm.bits 10 1023)) (by kernel_rfl) (by kernel_rfl) rfl hX5b (fun w6a hx6a => ?_)
          have hX6a := Ext.trans hX5b hx6a
          replace hC := hC.ext hx6a
          replace hvs := hvs.ext hx6a
          have hne : ∀ b, (Value.slice q3 vs.length cap3).ownBlock = some b → b ≠ cb := fun b hb => by have h1 := hfr b hb; have h2 := hown b hb; omega
          have hC2 := hC.put (.string PB) (.bool false) (.slice q3 vs.length cap3)
          have hvs2 : Strs (((w6a.setCell ⟨cb, 0, none⟩ (.string PB)).setCell ⟨cb, 1, none⟩ (.bool false)).setCell ⟨cb, 2, none⟩ (.slice q3 vs.length cap3)) (.slice q3 vs.length cap3) vs := Sl.grown hvs (grown_trans (grown_trans (grown_set w6a cb 0 (.string PB)) (grown_set _ cb 1 (.bool false))) (grown_set _ cb 2 (.slice q3 vs.length cap3))) (Or.inr fun c e e2 => hne c e (Option.some.inj e2).symm)
          have hX2 : Ext w1 (((w6a.setCell ⟨cb, 0, none⟩ (.string PB)).setCell ⟨cb, 1, none⟩ (.bool false)).setCell ⟨cb, 2, none⟩ (.slice q3 vs.length cap3)) := below_put3 hX6a hcl _ _ _
          obtain ⟨_, y1, y2, y3, y4, y5, y6⟩ := id hC
          go_wp2_with fail
          generalize ((w6a.setCell ⟨cb, 0, none⟩ (.string PB)).setCell ⟨cb, 1, none⟩ (.bool false)).setCell ⟨cb, 2, none⟩ (.slice q3 vs.length cap3) = w6b at *
          have hX6b := hX2
          clear y1 y2 y3 y4 y5 y6 hC hX2 hvs
          try simp only [Exit.then, Act.put, List.setIfInBounds_toArray, List.set_cons_succ, List.set_cons_zero]
          refine Dm.wpE_done (by kernel_rfl) hX6b (fun w7a hx7a => ?_)
          have hX7a := Ext.trans hX6b hx7a
          replace hC2 := hC2.ext hx7a
          replace hvs2 := hvs2.ext hx7a
          have hwb : w.heap.size < w1.heap.size := K1.lt
          have hwf : Hid (∀ b, (Value.slice q3 vs.length cap3).ownBlock = some b → w.heap.size ≤ b) := fun b hb => by have h1 := hfr b hb; omega
          have hnb : ∀ b, (Value.slice q3 vs.length cap3).ownBlock = some b → b ≠ w.heap.size := fun b hb => by have h1 := hfr b hb; omega
          have hvm : Hid (∀ (K : ByteArray) (no : Bool), mkT (oneL x.data.toList) = mkT (K.data.toList, no, splitC 124 RB.data.toList) → mkT (oneL x.data.toList) = (K, no, vs)) := fun K no h => by
            rw [h, ← hvb.out]
            show ((⟨K.data.toList.toArray⟩ : ByteArray), no, (bytesOf vs).map fun x => (⟨x.toArray⟩ : ByteArray)) = _
            rw [Array.toArray_toList, bytesOf, List.map_map]
            have : vs.map ((fun x : Bs => (⟨x.toArray⟩ : ByteArray)) ∘ fun x => x.data.toList) = vs := by
              conv => rhs; rw [← List.map_id vs]
              exact List.map_congr_left fun y _ => by show (⟨y.data.toList.toArray⟩ : ByteArray) = y; rw [Array.toArray_toList]
            rw [this]
          have K9 := K1.ext hX7a
          have E9 := E1.trans hX7a
          have hc9 : w.heap.size ≠ cb := by omega
          have hcw : w.heap.size ≤ cb := by omega
          clear hfr hown hcl
          by_cases hP0 : 0 < PB.size
          · have hsi := suf33_idx (x := PB) (by omega)
            have hPd : decide ((0 : Int) < (PB.size : Int)) = true := decide_eq_true (by omega)
            have hPw : IntKind.i64.wrap ((PB.size : Int) - 1) = ((PB.size - 1 : Nat) : Int) := by rw [IntKind.wrap_i64]; omega
            cases hsf : suf33 PB with
            | true =>
              rw [hsf] at hsi
              have hfin : Hid (mkT (oneL x.data.toList) = (PB.extract 0 (PB.size - 1), true, vs)) := hvm.out _ _ (by rw [hTT.out, if_pos (by simpa [suf33] using hsf), mk_dropLast])
              have hC3 := (hC2.set0 (.string (PB.extract 0 (PB.size - 1)))).set1 (.bool true)
              have K10 := ((K9.far (c := cb) (i := 0) (Ne.symm hc9) (.string (PB.extract 0 (PB.size - 1)))).far (c := cb) (i := 1) (Ne.symm hc9) (.bool true))
              have hvs3 : Strs ((w7a.setCell ⟨cb, 0, none⟩ (.string (PB.extract 0 (PB.size - 1)))).setCell ⟨cb, 1, none⟩ (.bool true)) (.slice q3 vs.length cap3) vs := Sl.grown hvs2 (grown_trans (grown_set w7a cb 0 (.string (PB.extract 0 (PB.size - 1)))) (grown_set _ cb 1 (.bool true))) (Or.inr fun c e e2 => hne c e (Option.some.inj e2).symm)
              have E10 : Ext w ((w7a.setCell ⟨cb, 0, none⟩ (.string (PB.extract 0 (PB.size - 1)))).setCell ⟨cb, 1, none⟩ (.bool true)) := (E9.setCell (p := ⟨cb, 0, none⟩) hcw _).setCell (p := ⟨cb, 1, none⟩) hcw _
              have K11 := K10.put (.string (PB.extract 0 (PB.size - 1))) (.bool true) (.slice q3 vs.length cap3)
              have hvs4 : Strs (((((w7a.setCell ⟨cb, 0, none⟩ (.string (PB.extract 0 (PB.size - 1)))).setCell ⟨cb, 1, none⟩ (.bool true)).setCell ⟨w.heap.size, 0, none⟩ (.string (PB.extract 0 (PB.size - 1)))).setCell ⟨w.heap.size, 1, none⟩ (.bool true)).setCell ⟨w.heap.size, 2, none⟩ (.slice q3 vs.length cap3)) (.slice q3 vs.length cap3) vs := Sl.grown hvs3 (grown_trans (grown_trans (grown_set _ w.heap.size 0 (.string (PB.extract 0 (PB.size - 1)))) (grown_set _ w.heap.size 1 (.bool true))) (grown_set _ w.heap.size 2 (.slice q3 vs.length cap3))) (Or.inr fun c e e2 => hnb c e (Option.some.inj e2).symm)
              have E11 : Ext w (((((w7a.setCell ⟨cb, 0, none⟩ (.string (PB.extract 0 (PB.size - 1)))).setCell ⟨cb, 1, none⟩ (.bool true)).setCell ⟨w.heap.size, 0, none⟩ (.string (PB.extract 0 (PB.size - 1)))).setCell ⟨w.heap.size, 1, none⟩ (.bool true)).setCell ⟨w.heap.size, 2, none⟩ (.slice q3 vs.length cap3)) := below_put3 E10 (Nat.le_refl _) _ _ _
              obtain ⟨_, x0, x1, x2, x3, x4, x5⟩ := id hC2
              obtain ⟨_, y0, y1, y2, y3, y4, y5⟩ := hC3
              obtain ⟨_, z0, z1, z2, z3, z4, z5⟩ := id K10
              have x4' : (w7a.setCell ⟨cb, 0, none⟩ (.string (PB.extract 0 (PB.size - 1)))).frozen? ⟨cb, 1, none⟩ = false := by rw [World.frozen?_setCell]; exact x4
              have x1' : (w7a.setCell ⟨cb, 0, none⟩ (.string (PB.extract 0 (PB.size - 1)))).cell? ⟨cb, 1, none⟩ = some (.bool false) := cell_set_ne x1 (by decide)
              clear hvm hne hnb hc9 hC2 K9 K1 E9 E1
              go_wp2
              obtain ⟨_, k0, k1, k2, _, _, _⟩ := K11
              refine bodyPost_ret (v := .agg #[.string (PB.extract 0 (PB.size - 1)), .bool true, .slice q3 vs.length cap3]) (by simp [results, Tryz.results91, go_sem, k0, k1, k2]) rfl ?_
              exact ⟨((PB.extract 0 (PB.size - 1)), true, .slice q3 vs.length cap3, vs), rfl, by rw [hfin.out]; rfl, hvs4, hwf.out, E11⟩
            | false =>
              rw [hsf] at hsi
              have hfin : Hid (mkT (oneL x.data.toList) = (PB, false, vs)) := hvm.out _ _ (by rw [hTT.out, if_neg (by simpa [suf33] using hsf)])
              have K10 := K9
              have K11 := K10.put (.string PB) (.bool false) (.slice q3 vs.length cap3)
              have hvs4 : Strs (((w7a.setCell ⟨w.heap.size, 0, none⟩ (.string PB)).setCell ⟨w.heap.size, 1, none⟩ (.bool false)).setCell ⟨w.heap.size, 2, none⟩ (.slice q3 vs.length cap3)) (.slice q3 vs.length cap3) vs := Sl.grown hvs2 (grown_trans (grown_trans (grown_set _ w.heap.size 0 (.string PB)) (grown_set _ w.heap.size 1 (.bool false))) (grown_set _ w.heap.size 2 (.slice q3 vs.length cap3))) (Or.inr fun c e e2 => hnb c e (Option.some.inj e2).symm)
              have E11 : Ext w (((w7a.setCell ⟨w.heap.size, 0, none⟩ (.string PB)).setCell ⟨w.heap.size, 1, none⟩ (.bool false)).setCell ⟨w.heap.size, 2, none⟩ (.slice q3 vs.length cap3)) := below_put3 E9 (Nat.le_refl _) _ _ _
              obtain ⟨_, x0, x1, x2, x3, x4, x5⟩ := id hC2
              obtain ⟨_, z0, z1, z2, z3, z4, z5⟩ := id K10
              clear hvm hne hnb hc9 hC2 K9 K1 E9 E1
              go_wp2
              obtain ⟨_, k0, k1, k2, _, _, _⟩ := K11
              refine bodyPost_ret (v := .agg #[.string PB, .bool false, .slice q3 vs.length cap3]) (by simp [results, Tryz.results91, go_sem, k0, k1, k2]) rfl ?_
              exact ⟨(PB, false, .slice q3 vs.length cap3, vs), rfl, by rw [hfin.out]; rfl, hvs4, hwf.out, E11⟩
          · have hPd : decide ((0 : Int) < (PB.size : Int)) = false := decide_eq_false (by omega)
            have hsf : suf33 PB = false := suf33_short (by omega)
            have hfin : Hid (mkT (oneL x.data.toList) = (PB, false, vs)) := hvm.out _ _ (by rw [hTT.out, if_neg (by simpa [suf33] using hsf)])
            have K10 := K9
            have K11 := K10.put (.string PB) (.bool false) (.slice q3 vs.length cap3)
            have hvs4 : Strs (((w7a.setCell ⟨w.heap.size, 0, none⟩ (.string PB)).setCell ⟨w.heap.size, 1, none⟩ (.bool false)).setCell ⟨w.heap.size, 2, none⟩ (.slice q3 vs.length cap3)) (.slice q3 vs.length cap3) vs := Sl.grown hvs2 (grown_trans (grown_trans (grown_set _ w.heap.size 0 (.string PB)) (grown_set _ w.heap.size 1 (.bool false))) (grown_set _ w.heap.size 2 (.slice q3 vs.length cap3))) (Or.inr fun c e e2 => hnb c e (Option.some.inj e2).symm)
            have E11 : Ext w (((w7a.setCell ⟨w.heap.size, 0, none⟩ (.string PB)).setCell ⟨w.heap.size, 1, none⟩ (.bool false)).setCell ⟨w.heap.size, 2, none⟩ (.slice q3 vs.length cap3)) := below_put3 E9 (Nat.le_refl _) _ _ _
            obtain ⟨_, x0, x1, x2, x3, x4, x5⟩ := id hC2
            obtain ⟨_, z0, z1, z2, z3, z4, z5⟩ := id K10
            clear hvm hne hnb hc9 hC2 K9 K1 E9 E1
            go_wp2
            obtain ⟨_, k0, k1, k2, _, _, _⟩ := K11
            refine bodyPost_ret (v := .agg #[.string PB, .bool false, .slice q3 vs.length cap3]) (by simp [results, Tryz.results91, go_sem, k0, k1, k2]) rfl ?_
            exact ⟨(PB, false, .slice q3 vs.length cap3, vs), rfl, by rw [hfin.out]; rfl, hvs4, hwf.out, E11⟩
      · have hz : Hid (mkT (oneL x.data.toList) = (x, false, [])) := by
          show _ = _
          rw [hO.out (by rw [← hsb]; simpa [bytesOf] using h2)]
          show ((⟨x.data.toList.toArray⟩ : ByteArray), false, ([] : List ByteArray)) = _
          rw [Array.toArray_toList]
        have h2' : ((ss.length : Int) == 2) = false := by rw [beq_eq_false_iff_ne]; omega
        have K2 := K1.put (.string x) (.bool false) (.slice none 0 0)
        have hB := below_put3 E1 (Nat.le_refl _) (.string x) (.bool false) (.slice none 0 0)
        obtain ⟨_, y1, y2, y3, y4, y5, y6⟩ := id K1
        clear h2 hO hT
        go_wp2
        obtain ⟨_, k0, k1, k2, _, _, _⟩ := K2
        refine bodyPost_ret (v := .agg #[.string x, .bool false, .slice none 0 0]) (by simp [results, Tryz.results91, go_sem, k0, k1, k2]) rfl ?_
        exact ⟨(x, false, .slice none 0 0, []), rfl, by rw [hz.out]; rfl, Strs.nil _, (fun b hb => by cases hb), hB⟩
  · have h0d : decide ((0 : Int) < (x.size : Int)) = false := decide_eq_false (by omega)
    have hxe : x.data.toList = [] := by
      have := size_len x
      exact List.length_eq_zero_iff.1 (by omega)
    have hsp : splitC 61 x.data.toList = [[]] := by rw [hxe]; rfl
    have hz : Hid (mkT (oneL x.data.toList) = (x, false, [])) := by
      show _ = _
      rw [oneL_other (by rw [hxe]; simp) (by rw [hsp]; simp)]
      show ((⟨x.data.toList.toArray⟩ : ByteArray), false, ([] : List ByteArray)) = _
      rw [Array.toArray_toList]
    replace C1 := Lib.hid C1
    replace hsp := Lib.hid hsp
    clear hxe
    go_enter Tryz.func91, Tryz.ntmps91
    go_wp2_with fail
    refine (C1.out _).mono ?_; rintro e w1 ⟨r1, rfl, ⟨ss, hss, hsb⟩, _, h1⟩
    obtain ⟨qs, cs, rfl, _, _⟩ := hss.shape
    have h2' : ((ss.length : Int) == 2) = false := by
      have : ss.length = 1 := by
        have := congrArg List.length hsb
        rw [hsp.out] at this
        simpa [bytesOf] using this
      rw [this]; rfl
    have K1 := K0.ext h1
    have K2 := K1.put (.string x) (.bool false) (.slice none 0 0)
    have hB := below_put3 (hW.trans h1) (Nat.le_refl _) (.string x) (.bool false) (.slice none 0 0)
    obtain ⟨_, y1, y2, y3, y4, y5, y6⟩ := id K1
    clear C1 hW K0 h1
    go_wp2
    obtain ⟨_, k0, k1, k2, _, _, _⟩ := K2
    refine bodyPost_ret (v := .agg #[.string x, .bool false, .slice none 0 0]) (by simp [results, Tryz.results91, go_sem, k0, k1, k2]) rfl ?_
    exact ⟨(x, false, .slice none 0 0, []), rfl, by rw [hz.out]; rfl, Strs.nil _, (fun b hb => by cases hb), hB⟩

end Go.Proofs.YthmhalcloogniaaGreatDoor
