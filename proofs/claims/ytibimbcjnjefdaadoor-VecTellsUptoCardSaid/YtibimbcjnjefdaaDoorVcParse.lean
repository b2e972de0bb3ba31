/- Chapter 3: the walk of Parse. -/
import Derived.Test.YtibimbcjnjefdaaDoorVcParseP
import Derived.Lib.AtoiErrMem
namespace Go.Dm
open Go Go.RowKit
theorem bytesOf_at {l : List ByteArray} {k : Nat} (h : k < l.length) : (bytesOf l).getD k [] = (strAt l k).data.toList := by
  simp [bytesOf, strAt, h]
theorem sl_away {w : World} {sz b off n m cap c i : Nat} {cs : List Value} (h : Sl w sz (.slice (some ⟨b, off, none⟩) m cap) n cs) (hc : c ≠ b) (u : Value) : Sl (w.setCell ⟨c, i, none⟩ u) sz (.slice (some ⟨b, off, none⟩) m cap) n cs := by
  obtain ⟨hl, p, cap', hv, hn, hm, hz, h⟩ := h
  refine ⟨hl, p, cap', hv, hn, hm, hz, ?_⟩
  rcases h with h | ⟨b', off', hp, hlt, h⟩
  · exact Or.inl h
  · injection hv with e1 _ _
    rw [hp] at e1
    injection e1 with e1
    injection e1 with e1 e2
    subst e1 e2
    exact Or.inr ⟨b, off, hp, by rw [World.size_setCell]; exact hlt, fun j v hj => by rw [World.cell?_setCell_other (h := by intro e; injection e with e; exact hc e)]; exact h j v hj⟩
end Go.Dm
namespace Go.Proofs.YtibimbcjnjefdaaDoor
open Go.RowKit Go.Dm

/-- What the walks ask of the package variables. -/
structure VarsV (w : World) : Prop where
  tab : Tab10 Tryd.prog w
  mx : ∃ m, w.cell? ⟨3, 0, none⟩ = some (.int .i64 m)
  syn : ∃ ev, w.cell? ⟨0, 0, none⟩ = some ev ∧ (ev = .nilIface ∨ ∃ te pe, ev = .iface te pe)
  rng : ∃ ev, w.cell? ⟨1, 0, none⟩ = some ev ∧ (ev = .nilIface ∨ ∃ te pe, ev = .iface te pe)
theorem VarsV.ext {w w' : World} (h : VarsV w) (hx : Ext w w') : VarsV w' := by
  have hc : ∀ {g : Nat} {u}, w.cell? ⟨g, 0, none⟩ = some u → w'.cell? ⟨g, 0, none⟩ = some u := fun {g u} e => by
    rw [hx.cell (by exact World.block_lt_of_cell? _ _ e)]; exact e
  obtain ⟨m, hm⟩ := h.mx
  obtain ⟨a, ha, ha2⟩ := h.syn
  obtain ⟨b, hb, hb2⟩ := h.rng
  exact ⟨tabIs_ext h.tab hx, ⟨m, hc hm⟩, ⟨a, hc ha, ha2⟩, ⟨b, hc hb, hb2⟩⟩

theorem spu_w (s : ByteArray) (hs : s.size ≤ 281474976710656) (w : World) (hv : VarsV w) :
    Calls Tryd.prog 43 #[.string s, .int .i64 10, .int .i64 64] w fun e w' => ∃ er, e = .returned (.tuple #[.int .u64 (valP s.data.toList : Nat), er]) ∧ Ext w w' := by
  unfold valP
  cases h : Lib.parseUintB 64 s.data.toList with
  | ok u =>
    refine (Tryd.strconv_ParseUint_10_at64_ok s (by omega) u h w).mono ?_
    rintro e w' ⟨rfl, hw⟩
    rcases hw with rfl | rfl
    · exact ⟨_, rfl, Ext.refl _⟩
    · exact ⟨_, rfl, Lib.bytesWorld_below w _ s⟩
  | «syntax» =>
    obtain ⟨ev, h1, h2⟩ := hv.syn
    refine (Tryd.strconv_ParseUint_10_at64_syntax s hs h ev w h1 h2).mono ?_
    rintro e w' ⟨N, rfl, _, _, hb⟩
    exact ⟨_, rfl, hb⟩
  | range =>
    obtain ⟨ev, h1, h2⟩ := hv.rng
    refine (Tryd.strconv_ParseUint_10_at64_range s hs h ev w h1 h2).mono ?_
    rintro e w' ⟨N, rfl, _, _, hb⟩
    exact ⟨_, rfl, hb⟩

set_option maxHeartbeats 4000000 in
set_option maxRecDepth 100000 in
theorem vparse_w (s : ByteArray) (w : World) (hs : s.size < 4294967281) (hv : VarsV w) :
    Calls Tryd.prog 20 #[.string s] w fun e w' => e = .returned (.tuple #[vVal (parseV s.data.toList).1, .bool (parseV s.data.toList).2]) ∧ Ext w w' := by
  have hps : bytesOf (Lib.splitB ⟨#[58]⟩ 0 (Lib.countB s ⟨#[58]⟩) s) = splitC 58 s.data.toList := splitB_bytesC s 58
  have hpl : (Lib.splitB ⟨#[58]⟩ 0 (Lib.countB s ⟨#[58]⟩) s).length = Lib.countB s ⟨#[58]⟩ + 1 := Lib.splitB_all ⟨#[58]⟩ (by decide) 0 _ s rfl
  have hcl : Lib.countB s ⟨#[58]⟩ ≤ s.size := Lib.countB_le ⟨#[58]⟩ (by decide) _ s (Nat.le_refl _)
  have hsz : ∀ k, k < Lib.countB s ⟨#[58]⟩ + 1 → (strAt (Lib.splitB ⟨#[58]⟩ 0 (Lib.countB s ⟨#[58]⟩) s) k).size ≤ s.size := fun k hk => by
    have h1 : (strAt (Lib.splitB ⟨#[58]⟩ 0 (Lib.countB s ⟨#[58]⟩) s) k).data.toList ∈ splitC 58 s.data.toList := by
      rw [← hps, ← bytesOf_at (by omega)]
      have hl : k < (bytesOf (Lib.splitB ⟨#[58]⟩ 0 (Lib.countB s ⟨#[58]⟩) s)).length := by simp only [bytesOf, List.length_map]; omega
      rw [List.getD_eq_getElem?_getD, List.getElem?_eq_getElem hl]
      exact List.getElem_mem hl
    exact mem_splitC_len h1
  have hpv : ∀ k, k < Lib.countB s ⟨#[58]⟩ + 1 → valP (strAt (Lib.splitB ⟨#[58]⟩ 0 (Lib.countB s ⟨#[58]⟩) s) k).data.toList = pieceV (splitC 58 s.data.toList) k := fun k hk => by
    unfold pieceV
    rw [← hps, if_pos (by simp only [bytesOf, List.length_map]; omega), bytesOf_at (by omega)]
  have hpz : ∀ k, ¬ k < Lib.countB s ⟨#[58]⟩ + 1 → pieceV (splitC 58 s.data.toList) k = 0 := fun k hk => by
    unfold pieceV
    rw [← hps, if_neg (by simp only [bytesOf, List.length_map]; omega)]
  have hu64 := pieceV_u64 (splitC 58 s.data.toList)
  have hE2 : Ext w ((w.alloc (.cells #[.int .u64 (0 : Nat), .int .u64 (0 : Nat), .int .u64 (0 : Nat), .int .u64 (0 : Nat)] 24)).alloc (.cells #[.int .u64 (0 : Nat), .int .u64 (0 : Nat), .int .u64 (0 : Nat), .int .u64 (0 : Nat)] 24)) := ((Ext.refl w).alloc _).alloc _
  obtain ⟨m, hm⟩ := (hv.ext hE2).mx
  have CS := Tryd.strings_Split s ⟨#[58]⟩ m _ hs hm (by decide)
  have hb0 : VBox w.heap.size (fun _ => 0) ((w.alloc (.cells #[.int .u64 (0 : Nat), .int .u64 (0 : Nat), .int .u64 (0 : Nat), .int .u64 (0 : Nat)] 24)).alloc (.cells #[.int .u64 (0 : Nat), .int .u64 (0 : Nat), .int .u64 (0 : Nat), .int .u64 (0 : Nat)] 24)) := (VBox.new w (fun _ => 0) _).ext ((Ext.refl _).alloc _)
  have hb1 := VBox.new (w.alloc (.cells #[.int .u64 (0 : Nat), .int .u64 (0 : Nat), .int .u64 (0 : Nat), .int .u64 (0 : Nat)] 24)) (fun _ => 0) 24
  rw [World.size_alloc] at hb1
  have hSt : Strs (((w.alloc (.cells #[.int .u64 (0 : Nat), .int .u64 (0 : Nat), .int .u64 (0 : Nat), .int .u64 (0 : Nat)] 24)).alloc (.cells #[.int .u64 (0 : Nat), .int .u64 (0 : Nat), .int .u64 (0 : Nat), .int .u64 (0 : Nat)] 24)).alloc (.cells ((Lib.splitB ⟨#[58]⟩ 0 (Lib.countB s ⟨#[58]⟩) s).map Value.string).toArray 9)) (.slice (some ⟨w.heap.size + 1 + 1, 0, none⟩) (Lib.countB s ⟨#[58]⟩ + 1) (Lib.countB s ⟨#[58]⟩ + 1)) (Lib.splitB ⟨#[58]⟩ 0 (Lib.countB s ⟨#[58]⟩) s) := by
    have h := Sl.lit ((w.alloc (.cells #[.int .u64 (0 : Nat), .int .u64 (0 : Nat), .int .u64 (0 : Nat), .int .u64 (0 : Nat)] 24)).alloc (.cells #[.int .u64 (0 : Nat), .int .u64 (0 : Nat), .int .u64 (0 : Nat), .int .u64 (0 : Nat)] 24)) 9 1 (Lib.countB s ⟨#[58]⟩ + 1) ((Lib.splitB ⟨#[58]⟩ 0 (Lib.countB s ⟨#[58]⟩) s).map Value.string).toArray (by simp [hpl]) (by simp only [maxLen]; omega)
    rw [World.size_alloc, World.size_alloc] at h
    unfold Strs
    rw [hpl]
    simpa using h
  have hfin : ∀ j, j < 4 → pieceV (splitC 58 s.data.toList) j = vG (parseA (splitC 58 s.data.toList)) j := fun k hk =>
    match k, hk with
    | 0, _ => rfl
    | 1, _ => rfl
    | 2, _ => rfl
    | 3, _ => rfl
  have hOk := parseA_ok (splitC 58 s.data.toList)
  have hP : parseV s.data.toList = if textV (parseA (splitC 58 s.data.toList)) = s.data.toList then (parseA (splitC 58 s.data.toList), true) else (noV, false) := rfl
  rw [World.size_alloc, World.size_alloc] at CS
  have hE3 := hE2.alloc (.cells ((Lib.splitB ⟨#[58]⟩ 0 (Lib.countB s ⟨#[58]⟩) s).map Value.string).toArray 9)
  have hb03 := hb0.ext ((Ext.refl _).alloc (.cells ((Lib.splitB ⟨#[58]⟩ 0 (Lib.countB s ⟨#[58]⟩) s).map Value.string).toArray 9))
  have hb13 := hb1.ext ((Ext.refl _).alloc (.cells ((Lib.splitB ⟨#[58]⟩ 0 (Lib.countB s ⟨#[58]⟩) s).map Value.string).toArray 9))
  clear hps hE2 hb0 hb1 hm
  generalize Lib.splitB ⟨#[58]⟩ 0 (Lib.countB s ⟨#[58]⟩) s = ps at *
  generalize Lib.countB s ⟨#[58]⟩ = cnt at *
  generalize pieceV (splitC 58 s.data.toList) = pv at *
  generalize parseA (splitC 58 s.data.toList) = pa at *
  generalize parseV s.data.toList = V at *
  replace CS := Lib.hid CS
  replace hpv := Lib.hid hpv
  replace hpz := Lib.hid hpz
  replace hfin := Lib.hid hfin
  replace hP := Lib.hid hP
  replace hsz := Lib.hid hsz
  obtain ⟨n, hn⟩ : ∃ n, min (cnt + 1) 4 = n := ⟨_, rfl⟩
  have hmin : min ((cnt : Int) + 1) 4 = (n : Int) := by omega
  go_enter Tryd.func20, Tryd.ntmps20
  go_wp2_with fail
  refine CS.out.mono ?_; rintro e w1 ⟨rfl, rfl⟩
  generalize ((w.alloc (.cells #[.int .u64 (0 : Nat), .int .u64 (0 : Nat), .int .u64 (0 : Nat), .int .u64 (0 : Nat)] 24)).alloc (.cells #[.int .u64 (0 : Nat), .int .u64 (0 : Nat), .int .u64 (0 : Nat), .int .u64 (0 : Nat)] 24)).alloc (.cells (ps.map Value.string).toArray 9) = w1 at *
  clear CS
  go_wp2
  go_loopw [12] (fun i wr => ∃ k : Nat, k ≤ n ∧ i = .int .i64 k ∧ Ext w wr ∧ VBox w.heap.size (fun _ => 0) wr ∧ VBox (w.heap.size + 1) (fun j => if j < k then pv j else 0) wr ∧ Strs wr (.slice (some ⟨w.heap.size + 1 + 1, 0, none⟩) (cnt + 1) (cnt + 1)) ps) (fun i _ => n - (intOf i).toNat)
  case atStart => exact ⟨0, by omega, rfl, hE3, hb03, hb13.congr (fun j _ => by simp), hSt⟩
  case round =>
    obtain ⟨k, hk, rfl, hb, v2, v4, hS⟩ := hrel
    by_cases hlt : k < n
    · have hkc : k < cnt + 1 := by omega
      have hk4 : k < 4 := by omega
      obtain ⟨hbs, c0⟩ : w.heap.size + 1 + 1 < wr.heap.size ∧ wr.cell? ⟨w.heap.size + 1 + 1, k, none⟩ = some (.string (strAt ps k)) := by
        have hS2 := hS
        rw [← hpl] at hS2
        have := Strs.cells hS2 (k := k) (by omega)
        rw [Nat.zero_add] at this
        exact this
      have CP := spu_w (strAt ps k) (by have := hsz.out k hkc; omega) wr (hv.ext hb)
      rw [hpv.out k hkc] at CP
      replace CP := Lib.hid CP
      have hst : ∀ w', VBox (w.heap.size + 1) (fun j => if j < k then pv j else 0) w' → VBox (w.heap.size + 1) (fun j => if j < k + 1 then pv j else 0) (w'.setCell ⟨w.heap.size + 1, k, none⟩ (.int .u64 (pv k : Nat))) := fun w' h => (h.set hk4).congr fun j _ => by
        by_cases e : j = k
        · subst e; simp
        · by_cases h2 : j < k
          · simp [e, h2, Nat.lt_succ_of_lt h2]
          · have : ¬ j < k + 1 := by omega
            simp [e, h2, this]
      replace hst := Lib.hid hst
      go_wp2_with fail
      refine CP.out.mono ?_; rintro e w2 ⟨er, rfl, h2⟩
      have u4 := v4.ext h2
      have d0 := u4.cell _ hk4
      have e0 := u4.free _ hk4
      go_wp2
      go_roundw
      case rel => exact ⟨k + 1, by omega, by go_num, (hb.trans h2).setCell (p := ⟨w.heap.size + 1, _, none⟩) (Nat.le_add_right _ 1) _, (v2.ext h2).far (by omega) _, hst.out _ u4, sl_away (hS.ext h2) (by omega) _⟩
      case measure => simp [intOf]; omega
    · obtain rfl : k = n := by omega
      replace v4 : VBox (w.heap.size + 1) (vG pa) wr := v4.congr fun j hj => by
        by_cases h : j < k
        · rw [if_pos h, hfin.out j hj]
        · rw [if_neg h, ← hfin.out j hj, hpz.out j (by omega)]
      have CT := vtext_w pa hOk wr (hv.ext hb).tab
      unfold vVal vF at CT
      obtain ⟨_, c0, c1, c2, c3, _, _, _, _⟩ := v4.four
      clear hpv hpz hfin hsz hmin
      by_cases hc : textV pa = s.data.toList
      · have hVe : Hid (V = (pa, true)) := by show _ = _; rw [hP.out, if_pos hc]
        have htx : (⟨(textV pa).toArray⟩ : ByteArray) = s := (mk_bytes hc.symm).symm
        rw [htx] at CT
        have hq : (s.toList == s.toList) = true := by simp
        replace CT := Lib.hid CT
        go_wp2_with fail
        refine CT.out.mono ?_; rintro e w3 ⟨rfl, h3⟩
        obtain ⟨_, f0, f1, f2, f3, _, _, _, _⟩ := (v4.ext h3).four
        obtain ⟨_, d0, d1, d2, d3, e0, e1, e2, e3⟩ := (v2.ext h3).four
        go_wp2
        have z0 := ((((v2.ext h3).set (k := 0) (v := vG pa 0) (by omega)).set (k := 1) (v := vG pa 1) (by omega)).set (k := 2) (v := vG pa 2) (by omega)).set (k := 3) (v := vG pa 3) (by omega)
        have k0 := z0.cell 0 (by omega)
        have k1 := z0.cell 1 (by omega)
        have k2 := z0.cell 2 (by omega)
        have k3 := z0.cell 3 (by omega)
        simp at k0 k1 k2 k3
        refine bodyPost_ret (v := .tuple #[.agg #[.int .u64 (vG pa 0 : Nat), .int .u64 (vG pa 1 : Nat), .int .u64 (vG pa 2 : Nat), .int .u64 (vG pa 3 : Nat)], .bool true]) (by simp [results, Tryd.results20, go_sem, k0, k1, k2, k3]) rfl ?_
        exact ⟨by rw [hVe.out]; rfl, (hb.trans h3).put4 (b := w.heap.size) (Nat.le_refl _) (vG pa)⟩
      · have hVe : Hid (V = (noV, false)) := by show _ = _; rw [hP.out, if_neg hc]
        have hq : ((⟨(textV pa).toArray⟩ : ByteArray).toList == s.toList) = false := Bool.eq_false_iff.2 fun h => hc (by rw [← bytes_eq.1 h])
        generalize (⟨(textV pa).toArray⟩ : ByteArray) = tx at *
        replace CT := Lib.hid CT
        go_wp2_with fail
        refine CT.out.mono ?_; rintro e w3 ⟨rfl, h3⟩
        obtain ⟨_, d0, d1, d2, d3, e0, e1, e2, e3⟩ := (v2.ext h3).four
        go_wp2
        have z0 := ((((v2.ext h3).set (k := 0) (v := 0) (by omega)).set (k := 1) (v := 0) (by omega)).set (k := 2) (v := 0) (by omega)).set (k := 3) (v := 0) (by omega)
        have k0 := z0.cell 0 (by omega)
        have k1 := z0.cell 1 (by omega)
        have k2 := z0.cell 2 (by omega)
        have k3 := z0.cell 3 (by omega)
        simp at k0 k1 k2 k3
        refine bodyPost_ret (v := .tuple #[.agg #[.int .u64 0, .int .u64 0, .int .u64 0, .int .u64 0], .bool false]) (by simp [results, Tryd.results20, go_sem, k0, k1, k2, k3]) rfl ?_
        exact ⟨by rw [hVe.out]; rfl, (hb.trans h3).put4 (b := w.heap.size) (Nat.le_refl _) (fun _ => 0)⟩

end Go.Proofs.YtibimbcjnjefdaaDoor
