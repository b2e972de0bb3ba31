/- Texts one behind the other: Chapter 3: the walk of the document's Parse. -/
import Derived.Test.YthmhalcloogniaaGreatDoorT24
namespace Go.Dm
open Go Go.RowKit
theorem scan_byte {l cur : Bs} {ns : List Nat} {b : UInt8} (h : b ≠ 58) : scanP (b :: l) cur ns = scanP l (cur ++ [b]) ns := by
  rw [scanP, if_neg h]
theorem scan_dot {l cur : Bs} {ns : List Nat} (h : (numV cur).2 = true) (hn : ns.length < 4) : scanP (58 :: l) cur ns = scanP l [] (ns ++ [(numV cur).1]) := by
  rw [scanP, if_pos rfl, if_pos ⟨h, hn⟩]
theorem scan_dot_no {l cur : Bs} {ns : List Nat} (h : (numV cur).2 = false ∨ ns.length = 4) : scanP (58 :: l) cur ns = none := by
  rw [scanP, if_pos rfl, if_neg]
  intro ⟨h1, h2⟩
  rcases h with h | h
  · rw [h] at h1; cases h1
  · omega
theorem scan_end {cur : Bs} {ns : List Nat} (h : (numV cur).2 = true) (hn : ns.length < 4) : scanP [] cur ns = if (ns ++ [(numV cur).1]).length = 4 then some (ns ++ [(numV cur).1]) else none := by
  rw [scanP, if_pos ⟨h, hn⟩]
  simp
theorem scan_end_no {cur : Bs} {ns : List Nat} (h : (numV cur).2 = false ∨ ns.length = 4) : scanP [] cur ns = none := by
  rw [scanP, if_neg]
  intro ⟨h1, h2⟩
  rcases h with h | h
  · rw [h] at h1; cases h1
  · omega
/-- What stands from one place up to another. -/
theorem cut_snoc {l : Bs} {f i : Nat} (hf : f ≤ i) (hi : i < l.length) : (l.take (i + 1)).drop f = (l.take i).drop f ++ [l[i]'hi] := by
  rw [List.take_succ_eq_append_getElem hi, List.drop_append_of_le_length (by rw [List.length_take]; omega)]
theorem cut_nil (l : Bs) (i : Nat) : (l.take i).drop i = [] := by
  apply List.drop_eq_nil_of_le; rw [List.length_take]; omega
theorem extract_cut (s : ByteArray) (f i : Nat) : (s.extract f i).data.toList = (s.data.toList.take i).drop f := by
  rw [ByteArray.data_extract, Array.toList_extract, List.extract_eq_take_drop, List.drop_take]
end Go.Dm
namespace Go.Proofs.YthmhalcloogniaaGreatDoor
open Go.RowKit Go.Dm

set_option maxHeartbeats 8000000 in
set_option maxRecDepth 100000 in
theorem r03parse_w (s : ByteArray) (w : World) (hs : s.size ≤ 281474976710656) :
    Calls Tryz.prog 47 #[.string s] w fun e w' => e = .returned (.tuple #[vVal (parseV s.data.toList).1, .bool (parseV s.data.toList).2]) ∧ Ext w w' := by
  have hln : s.data.toList.length = s.size := rfl
  have hP := scanP_parse s.data.toList
  have CN := fun f i (hi : i ≤ s.size) (U : World) => r03number_w (s.extract f i) (by rw [ByteArray.size_extract]; omega) U
  simp only [extract_cut] at CN
  generalize parseV s.data.toList = V at *
  have hS0 : scanP s.data.toList [] [] = scanP (s.data.toList.drop 0) ((s.data.toList.take 0).drop 0) [] := rfl
  rw [hS0] at hP
  obtain ⟨F, hF⟩ : ∃ F : Nat → Nat → List Nat → Option (List Nat), ∀ i f ns, scanP (s.data.toList.drop i) ((s.data.toList.take i).drop f) ns = F i f ns := ⟨fun i f ns => scanP (s.data.toList.drop i) ((s.data.toList.take i).drop f) ns, fun _ _ _ => rfl⟩
  obtain ⟨G, hG⟩ : ∃ G : Nat → Nat → Nat × Bool, ∀ f i, numV ((s.data.toList.take i).drop f) = G f i := ⟨fun f i => numV ((s.data.toList.take i).drop f), fun _ _ => rfl⟩
  have hdr : ∀ i (h : i < s.size), s.data.toList.drop i = (s[i]'h) :: s.data.toList.drop (i + 1) := fun i h => List.drop_eq_getElem_cons (show i < s.data.toList.length by rw [hln]; exact h)
  have hB : ∀ i f ns (h : i < s.size), f ≤ i → s[i]'h ≠ 58 → F i f ns = F (i + 1) f ns := fun i f ns h hf hb => by
    rw [← hF, ← hF, hdr i h, scan_byte hb, cut_snoc hf (by rw [hln]; exact h)]
    rfl
  have hD : ∀ i f ns (h : i < s.size), s[i]'h = 58 → (G f i).2 = true → ns.length < 4 → F i f ns = F (i + 1) (i + 1) (ns ++ [(G f i).1]) := fun i f ns h hb h1 h2 => by
    rw [← hG] at h1
    rw [← hF, ← hF, hdr i h, hb, scan_dot h1 h2, cut_nil, hG]
  have hDn : ∀ i f ns (h : i < s.size), s[i]'h = 58 → ((G f i).2 = false ∨ ns.length = 4) → F i f ns = none := fun i f ns h hb h1 => by
    rw [← hG] at h1
    rw [← hF, hdr i h, hb, scan_dot_no h1]
  have hdl : s.data.toList.drop s.size = [] := List.drop_eq_nil_of_le (by rw [hln]; omega)
  have hE : ∀ f ns, (G f s.size).2 = true → ns.length < 4 → F s.size f ns = if (ns ++ [(G f s.size).1]).length = 4 then some (ns ++ [(G f s.size).1]) else none := fun f ns h1 h2 => by
    rw [← hG] at h1
    rw [← hF, hdl, scan_end h1 h2, hG]
  have hEn : ∀ f ns, ((G f s.size).2 = false ∨ ns.length = 4) → F s.size f ns = none := fun f ns h1 => by
    rw [← hG] at h1
    rw [← hF, hdl, scan_end_no h1]
  rw [hF] at hP
  simp only [hG] at CN
  clear hF hG hdr hdl hS0 hln
  replace hP := Lib.hid hP
  replace CN := Lib.hid CN
  replace hB := Lib.hid hB
  replace hD := Lib.hid hD
  replace hDn := Lib.hid hDn
  replace hE := Lib.hid hE
  replace hEn := Lib.hid hEn
  have hz1 := VBox.new (w.alloc (.cells #[.int .u64 (0 : Nat), .int .u64 (0 : Nat), .int .u64 (0 : Nat), .int .u64 (0 : Nat)] 30)) (fun _ => 0) 30
  rw [World.size_alloc] at hz1
  go_enter Tryz.func47, Tryz.ntmps47
  go_wp2
  go_loopw [5, 6, 7] (fun k' f' i' wr => ∃ (i f : Nat) (ns : List Nat), i' = .int .i64 i ∧ f' = .int .i64 f ∧ k' = .int .i64 ns.length ∧ ns.length ≤ 4 ∧ i ≤ s.size + 1 ∧ f ≤ i ∧ Ext w wr ∧ VBox w.heap.size (fun _ => 0) wr ∧ VBox (w.heap.size + 1) (fun j => ns.getD j 0) wr ∧ Hid (if i ≤ s.size then F 0 0 [] = F i f ns else F 0 0 [] = if ns.length = 4 then some ns else none)) (fun _ _ i' _ => s.size + 1 - (intOf i').toNat)
  case atStart => exact ⟨0, 0, [], rfl, rfl, rfl, by decide, by omega, by omega, ((Ext.refl _).alloc _).alloc _, (VBox.new w (fun _ => 0) _).ext ((Ext.refl _).alloc _), hz1.congr (fun j _ => by simp), by show ite _ _ _; rw [if_pos (by omega)]⟩
  case round =>
    obtain ⟨i, f, ns, rfl, rfl, rfl, hn4, hi, hf, hb, v3, v4, HG⟩ := hrel
    by_cases hile : i ≤ s.size
    · have HG0 := HG.out
      rw [if_pos hile] at HG0
      by_cases hbyte : ∃ h : i < s.size, s[i]'h ≠ 58
      · obtain ⟨hlt, hne⟩ := hbyte
        have h2 := hB.out i f ns hlt hf hne
        have HG2 : Hid (if i + 1 ≤ s.size then F 0 0 [] = F (i + 1) f ns else F 0 0 [] = if ns.length = 4 then some ns else none) := by
          show ite _ _ _
          rw [if_pos (show i + 1 ≤ s.size by omega), HG0, h2]
        have hneb : (((s[i]'hlt).toNat : Int) != 58) = true := by
          rw [bne_iff_ne]
          intro e
          exact hne (UInt8.toNat_inj.1 (by show (s[i]'hlt).toNat = 58; omega))
        clear h2 HG0 HG
        go_wp2
        go_roundw
        case rel => exact ⟨i + 1, f, ns, by go_num, rfl, rfl, hn4, by omega, by omega, hb, v3, v4, HG2⟩
        case measure => simp [intOf]; omega
      · have C := CN.out f i hile
        have hneb : ∀ h : i < s.size, (((s[i]'h).toNat : Int) != 58) = false := fun h => by
          have : s[i]'h = 58 := Classical.byContradiction fun e => hbyte ⟨h, e⟩
          rw [this]; rfl
        have hYes : (G f i).2 = true → ns.length < 4 → Hid (if i + 1 ≤ s.size then F 0 0 [] = F (i + 1) (i + 1) (ns ++ [(G f i).1]) else F 0 0 [] = if (ns ++ [(G f i).1]).length = 4 then some (ns ++ [(G f i).1]) else none) := fun h1 h2 => by
          show ite _ _ _
          rw [HG0]
          by_cases h : i < s.size
          · rw [if_pos (by omega)]
            exact hD.out i f ns h (Classical.byContradiction fun e => hbyte ⟨h, e⟩) h1 h2
          · obtain rfl : i = s.size := by omega
            rw [if_neg (by omega)]
            exact hE.out f ns h1 h2
        have hNo : ((G f i).2 = false ∨ ns.length = 4) → Hid (V = (noV, false)) := fun h1 => by
          show _ = _
          rw [hP.out, HG0]
          by_cases h : i < s.size
          · rw [hDn.out i f ns h (Classical.byContradiction fun e => hbyte ⟨h, e⟩) h1]
          · obtain rfl : i = s.size := by omega
            rw [hEn.out f ns h1]
        clear hbyte HG HG0
        generalize G f i = g at *
        obtain ⟨x, o⟩ := g
        replace C := Lib.hid C
        obtain ⟨n, hnl⟩ : ∃ n, ns.length = n := ⟨_, rfl⟩
        simp only at hYes hNo
        by_cases hok : o = true ∧ n < 4
        · obtain ⟨rfl, hk4⟩ := hok
          have HG2 := hYes rfl (by omega)
          clear hYes hNo
          have hN4b : ((n : Int) == 4) = false := by rw [beq_eq_false_iff_ne]; omega
          have hst4 : ∀ w', VBox (w.heap.size + 1) (fun j => ns.getD j 0) w' → VBox (w.heap.size + 1) (fun j => (ns ++ [x]).getD j 0) (w'.setCell ⟨w.heap.size + 1, n, none⟩ (.int .u64 (x : Nat))) := fun w' h => (h.set hk4).congr fun j _ => by
            by_cases e : j = n
            · subst e; rw [← hnl]; simp
            · by_cases h3 : j < n
              · simp [e, List.getD_eq_getElem?_getD, List.getElem?_append_left (show j < ns.length by omega)]
              · simp [e, List.getD_eq_getElem?_getD, List.getElem?_eq_none (show ns.length ≤ j by omega), List.getElem?_eq_none (show (ns ++ [x]).length ≤ j by simp; omega)]
          replace hst4 := Lib.hid hst4
          have hnl2 := Lib.hid hnl
          rw [hnl]
          clear hnl
          by_cases hlt : i < s.size
          · have hnb := hneb hlt
            clear hneb
            go_wp2_with fail
            refine (C.out wr).mono ?_; rintro e w2 ⟨rfl, h2⟩
            have u4 := v4.ext h2
            have d0 := u4.cell _ hk4
            have e0 := u4.free _ hk4
            go_wp2
            go_roundw
            case rel => exact ⟨i + 1, i + 1, ns ++ [x], by go_num, by go_num, by rw [List.length_append, hnl2.out]; go_num, by rw [List.length_append, hnl2.out]; show n + 1 ≤ 4; omega, by omega, by omega, (hb.trans h2).setCell (p := ⟨w.heap.size + 1, _, none⟩) (Nat.le_add_right _ 1) _, (v3.ext h2).far (by omega) _, hst4.out _ u4, HG2⟩
            case measure => simp [intOf]; omega
          · have hie : ¬ (i : Int) < (s.size : Int) := by omega
            clear hneb
            go_wp2_with fail
            refine (C.out wr).mono ?_; rintro e w2 ⟨rfl, h2⟩
            have u4 := v4.ext h2
            have d0 := u4.cell _ hk4
            have e0 := u4.free _ hk4
            go_wp2
            go_roundw
            case rel => exact ⟨i + 1, i + 1, ns ++ [x], by go_num, by go_num, by rw [List.length_append, hnl2.out]; go_num, by rw [List.length_append, hnl2.out]; show n + 1 ≤ 4; omega, by omega, by omega, (hb.trans h2).setCell (p := ⟨w.heap.size + 1, _, none⟩) (Nat.le_add_right _ 1) _, (v3.ext h2).far (by omega) _, hst4.out _ u4, HG2⟩
            case measure => simp [intOf]; omega
        · have hbad : o = false ∨ n = 4 := by
            cases o with
            | false => exact Or.inl rfl
            | true => exact Or.inr (by have : ¬ n < 4 := fun h => hok ⟨rfl, h⟩; omega)
          have hVn := hNo (by rw [hnl]; exact hbad)
          clear hYes hNo hok
          rw [hnl]
          clear hnl
          have hret : ∀ w2, Ext wr w2 → Ext w (put4 w2 w.heap.size (fun _ => 0)) := fun w2 h2 => (hb.trans h2).put4 (b := w.heap.size) (Nat.le_refl _) (fun _ => 0)
          have hcs : (o = false) ∨ (o = true ∧ ((n : Int) == 4) = true) := by
            rcases hbad with h | h
            · exact Or.inl h
            · cases o with
              | false => exact Or.inl rfl
              | true => exact Or.inr ⟨rfl, by rw [beq_iff_eq]; omega⟩
          clear hbad
          by_cases hlt : i < s.size
          · have hnb := hneb hlt
            clear hneb
            rcases hcs with rfl | ⟨rfl, h4⟩
            · go_wp2_with fail
              refine (C.out wr).mono ?_; rintro e w2 ⟨rfl, h2⟩
              obtain ⟨_, d0, d1, d2, d3, e0, e1, e2, e3⟩ := (v3.ext h2).four
              go_wp2
              have z0 := ((((v3.ext h2).set (k := 0) (v := 0) (by omega)).set (k := 1) (v := 0) (by omega)).set (k := 2) (v := 0) (by omega)).set (k := 3) (v := 0) (by omega)
              have k0 := z0.cell 0 (by omega)
              have k1 := z0.cell 1 (by omega)
              have k2 := z0.cell 2 (by omega)
              have k3 := z0.cell 3 (by omega)
              simp at k0 k1 k2 k3
              refine bodyPost_ret (v := .tuple #[.agg #[.int .u64 0, .int .u64 0, .int .u64 0, .int .u64 0], .bool false]) (by simp [results, Tryz.results47, go_sem, k0, k1, k2, k3]) rfl ?_
              exact ⟨by rw [hVn.out]; rfl, hret _ h2⟩
            · go_wp2_with fail
              refine (C.out wr).mono ?_; rintro e w2 ⟨rfl, h2⟩
              obtain ⟨_, d0, d1, d2, d3, e0, e1, e2, e3⟩ := (v3.ext h2).four
              go_wp2
              have z0 := ((((v3.ext h2).set (k := 0) (v := 0) (by omega)).set (k := 1) (v := 0) (by omega)).set (k := 2) (v := 0) (by omega)).set (k := 3) (v := 0) (by omega)
              have k0 := z0.cell 0 (by omega)
              have k1 := z0.cell 1 (by omega)
              have k2 := z0.cell 2 (by omega)
              have k3 := z0.cell 3 (by omega)
              simp at k0 k1 k2 k3
              refine bodyPost_ret (v := .tuple #[.agg #[.int .u64 0, .int .u64 0, .int .u64 0, .int .u64 0], .bool false]) (by simp [results, Tryz.results47, go_sem, k0, k1, k2, k3]) rfl ?_
              exact ⟨by rw [hVn.out]; rfl, hret _ h2⟩
          · have hie : ¬ (i : Int) < (s.size : Int) := by omega
            clear hneb
            rcases hcs with rfl | ⟨rfl, h4⟩
            · go_wp2_with fail
              refine (C.out wr).mono ?_; rintro e w2 ⟨rfl, h2⟩
              obtain ⟨_, d0, d1, d2, d3, e0, e1, e2, e3⟩ := (v3.ext h2).four
              go_wp2
              have z0 := ((((v3.ext h2).set (k := 0) (v := 0) (by omega)).set (k := 1) (v := 0) (by omega)).set (k := 2) (v := 0) (by omega)).set (k := 3) (v := 0) (by omega)
              have k0 := z0.cell 0 (by omega)
              have k1 := z0.cell 1 (by omega)
              have k2 := z0.cell 2 (by omega)
              have k3 := z0.cell 3 (by omega)
              simp at k0 k1 k2 k3
              refine bodyPost_ret (v := .tuple #[.agg #[.int .u64 0, .int .u64 0, .int .u64 0, .int .u64 0], .bool false]) (by simp [results, Tryz.results47, go_sem, k0, k1, k2, k3]) rfl ?_
              exact ⟨by rw [hVn.out]; rfl, hret _ h2⟩
            · go_wp2_with fail
              refine (C.out wr).mono ?_; rintro e w2 ⟨rfl, h2⟩
              obtain ⟨_, d0, d1, d2, d3, e0, e1, e2, e3⟩ := (v3.ext h2).four
              go_wp2
              have z0 := ((((v3.ext h2).set (k := 0) (v := 0) (by omega)).set (k := 1) (v := 0) (by omega)).set (k := 2) (v := 0) (by omega)).set (k := 3) (v := 0) (by omega)
              have k0 := z0.cell 0 (by omega)
              have k1 := z0.cell 1 (by omega)
              have k2 := z0.cell 2 (by omega)
              have k3 := z0.cell 3 (by omega)
              simp at k0 k1 k2 k3
              refine bodyPost_ret (v := .tuple #[.agg #[.int .u64 0, .int .u64 0, .int .u64 0, .int .u64 0], .bool false]) (by simp [results, Tryz.results47, go_sem, k0, k1, k2, k3]) rfl ?_
              exact ⟨by rw [hVn.out]; rfl, hret _ h2⟩
    · obtain rfl : i = s.size + 1 := by omega
      have HG0 := HG.out
      rw [if_neg hile] at HG0
      clear HG
      have hile' : ¬ ((s.size : Int) + 1 ≤ (s.size : Int)) := by omega
      obtain ⟨n, hnl⟩ : ∃ n, ns.length = n := ⟨_, rfl⟩
      by_cases h4 : n = 4
      · subst h4
        rw [if_pos hnl] at HG0
        have hVn : Hid (V = (ns, true)) := by show _ = _; rw [hP.out, HG0]
        clear HG0
        rw [hnl]
        obtain ⟨x0, x1, x2, x3, rfl⟩ : ∃ x0 x1 x2 x3, ns = [x0, x1, x2, x3] := by
          match ns, hnl with
          | [x0, x1, x2, x3], _ => exact ⟨x0, x1, x2, x3, rfl⟩
        have d0 : wr.cell? ⟨w.heap.size + 1, 0, none⟩ = some (.int .u64 (x0 : Nat)) := v4.cell 0 (by omega)
        have d1 : wr.cell? ⟨w.heap.size + 1, 1, none⟩ = some (.int .u64 (x1 : Nat)) := v4.cell 1 (by omega)
        have d2 : wr.cell? ⟨w.heap.size + 1, 2, none⟩ = some (.int .u64 (x2 : Nat)) := v4.cell 2 (by omega)
        have d3 : wr.cell? ⟨w.heap.size + 1, 3, none⟩ = some (.int .u64 (x3 : Nat)) := v4.cell 3 (by omega)
        obtain ⟨_, g0, g1, g2, g3, e0, e1, e2, e3⟩ := v3.four
        clear hnl
        go_wp2
        have z0 := (((v3.set (k := 0) (v := x0) (by omega)).set (k := 1) (v := x1) (by omega)).set (k := 2) (v := x2) (by omega)).set (k := 3) (v := x3) (by omega)
        have k0 := z0.cell 0 (by omega)
        have k1 := z0.cell 1 (by omega)
        have k2 := z0.cell 2 (by omega)
        have k3 := z0.cell 3 (by omega)
        simp at k0 k1 k2 k3
        refine bodyPost_ret (v := .tuple #[.agg #[.int .u64 (x0 : Nat), .int .u64 (x1 : Nat), .int .u64 (x2 : Nat), .int .u64 (x3 : Nat)], .bool true]) (by simp [results, Tryz.results47, go_sem, k0, k1, k2, k3]) rfl ?_
        exact ⟨by rw [hVn.out]; rfl, hb.put4 (b := w.heap.size) (Nat.le_refl _) (fun j => [x0, x1, x2, x3].getD j 0)⟩
      · rw [if_neg (by omega)] at HG0
        have hVn : Hid (V = (noV, false)) := by show _ = _; rw [hP.out, HG0]
        clear HG0
        have h4b : ((n : Int) != 4) = true := by rw [bne_iff_ne]; omega
        rw [hnl]
        clear hnl
        obtain ⟨_, d0, d1, d2, d3, e0, e1, e2, e3⟩ := v3.four
        go_wp2
        have z0 := (((v3.set (k := 0) (v := 0) (by omega)).set (k := 1) (v := 0) (by omega)).set (k := 2) (v := 0) (by omega)).set (k := 3) (v := 0) (by omega)
        have k0 := z0.cell 0 (by omega)
        have k1 := z0.cell 1 (by omega)
        have k2 := z0.cell 2 (by omega)
        have k3 := z0.cell 3 (by omega)
        simp at k0 k1 k2 k3
        refine bodyPost_ret (v := .tuple #[.agg #[.int .u64 0, .int .u64 0, .int .u64 0, .int .u64 0], .bool false]) (by simp [results, Tryz.results47, go_sem, k0, k1, k2, k3]) rfl ?_
        exact ⟨by rw [hVn.out]; rfl, hb.put4 (b := w.heap.size) (Nat.le_refl _) (fun _ => 0)⟩

end Go.Proofs.YthmhalcloogniaaGreatDoor
