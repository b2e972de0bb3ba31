/- Texts of the base. -/

import Derived.Test.YtefjdmjkofaajaaGreatDoorT36
import Derived.Test.YtefjdmjkofaajaaGreatDoorT33
import Derived.Test.YtefjdmjkofaajaaGreatDoorT35
namespace Go.Dm
open Go Go.RowKit
theorem OpAt.row {w : World} {V : Value} {o : OpQ} (h : OpAt w V o) : ∃ OR : List Value, V = .agg OR.toArray ∧ OR.length = 18 ∧ OR.toArray.all (·.oneCell') = true := by
 obtain ⟨v, l, R, rfl, hT, _, _, _, hP, _⟩ := h
 obtain ⟨_, _, rfl, _, _⟩ := hT.shape
 obtain ⟨_, _, rfl, _, _⟩ := hP.shape
 exact ⟨_, rfl, rfl, by kernel_rfl⟩
theorem TokAt.cav {w : World} {v : Value} {x : TokQ} (h : TokAt w (.agg #[.string x.1, v, .string x.2.2]) x) : Cavs w v x.2.1 := by
 obtain ⟨v', he, hc, _⟩ := h
 have : v = v' := by simpa using he
 rw [this]; exact hc
theorem TokAt.rowL {w : World} {V : Value} {t : TokQ} (h : TokAt w V t) : ∃ TR : List Value, V = .agg TR.toArray ∧ TR.length = 3 ∧ TR.toArray.all (·.oneCell') = true := by
 obtain ⟨v, rfl, hx, _⟩ := h
 obtain ⟨_, _, rfl, _, _⟩ := hx.shape
 exact ⟨_, rfl, rfl, by kernel_rfl⟩
theorem rightO_small {o : OpQ} (h : rightO o = true) : SmallO o := by
 unfold rightO at h
 cases hk : knownF o.1 with
 | none => rw [hk] at h; cases h
 | some f =>
  rw [hk] at h
  simp only [Bool.and_eq_true, decide_eq_true_eq, Bool.or_eq_true, Bool.not_eq_true'] at h
  obtain ⟨he, hx, _, hl⟩ := h
  unfold rightLab at hl
  simp only [Bool.and_eq_true, decide_eq_true_eq] at hl
  have h8 := hl.1
  unfold labL at h8
  rw [List.length_map] at h8
  rcases hx with hf | hc
  ·unfold eqO bareO at he
   simp only [Bool.and_eq_true, decide_eq_true_eq, hf, cond_false] at he
   have hs := he.2.2.2.2.1
   unfold sameX at hs
   simp only [Bool.and_eq_true, decide_eq_true_eq] at hs
   have e1 : o.2.2.2.2.1.1 = noSp.1 := (bytes_beq _ _).1 hs.1
   have e2 : o.2.2.2.2.1.2.2.2 = noSp.2.2.2 := hs.2.2.2.2.2
   exact ⟨by rw [e2]; show (0 : Nat) ≤ _; decide, by omega, by rw [e1]; show (0 : Nat) ≤ _; decide⟩
  ·obtain ⟨hu, _, hr, _⟩ := chkX_iff.1 hc
   have h98 := (under_short hu).1
   unfold rightS at hr
   simp only [Bool.and_eq_true, decide_eq_true_eq] at hr
   have : o.2.2.2.2.1.1.size ≤ 98 := h98
   exact ⟨by omega, by omega, by omega⟩
theorem openG_small (l : Bs) : SmallO (openG l).2.1 := by
 have h0 : SmallO noG.2.1 := ⟨by show (0 : Nat) ≤ _; decide, by show (0 : Nat) ≤ _; decide, by show (0 : Nat) ≤ _; decide⟩
 unfold openG
 split
 ·exact h0
 ·split
  ·exact h0
  ·rename_i h1 h2
   have hk : (getO l (getTok l 0).2.1).2.2 = true := by
    cases h : (getO l (getTok l 0).2.1).2.2 with
    | true => rfl
    | false => exact absurd (Or.inl h) h2
   revert hk
   generalize (getTok l 0).2.1 = q
   unfold getO finO
   split
   ·exact fun h => by cases h
   ·split
    ·rename_i h3; exact fun _ => rightO_small h3.2
    ·exact fun h => by cases h
theorem two_made (w : World) (t1 t2 : TypeId) (z1 z2 c1 c2 : List Value) : ∃ wa wb wd ba bb, w.alloc (.cells z1.toArray t1) = wa ∧ wa.alloc (.cells z2.toArray t2) = wb ∧ w.heap.size = ba ∧ wa.heap.size = bb ∧ RB ba t1 z1 wb ∧ RB bb t2 z2 (wb.setRow ba c1.toArray) ∧ (wb.setRow ba c1.toArray).setRow bb c2.toArray = wd ∧ RB ba t1 c1 wd ∧ RB bb t2 c2 wd ∧ Ext w wd := by
 obtain ⟨wa, hWa, hA, eA, sA⟩ := new_row w t1 z1
 obtain ⟨wb, hWb, hB, eB, _⟩ := new_row wa t2 z2
 obtain ⟨wc, hWc, hC, fC, xC⟩ := set_row (hA.ext eB) c1
 subst hWc
 have hne : w.heap.size ≠ wa.heap.size := by omega
 obtain ⟨wd, hWd, hD, fD, xD⟩ := set_row (fC _ _ _ hne hB) c2
 exact ⟨wa, wb, wd, _, _, hWa, hWb, rfl, rfl, hA.ext eB, fC _ _ _ hne hB, hWd, fD _ _ _ (Ne.symm hne) hC, hD, xD _ (xC _ (eA.trans eB) (Nat.le_refl _)) (by omega)⟩
theorem cavs_take {w : World} {q : Option Addr} {cap : Nat} {L : List Cav} (h : Cavs w (.slice q L.length cap) L) {n : Nat} (hn : n ≤ L.length) : Cavs w (.slice q n cap) (L.take n) := by
 have hl : (L.take n).length = n := by rw [List.length_take]; omega
 have e : (cavC L).take (n * 2) = cavC (L.take n) := by
  conv => lhs; rw [← List.take_append_drop n L, cavC_app]
  rw [List.take_left' (by rw [cavC_len, hl])]
 unfold Cavs
 rw [hl, ← e]
 exact Sl.take h hn
end Go.Dm
namespace Go.Proofs.YtefjdmjkofaajaaGreatDoor
open Go.RowKit Go.Dm
set_option maxHeartbeats 8000000 in
set_option maxRecDepth 100000 in
theorem gateTells_w (key : ByteArray) (T : Value) (t : TokQ) (l : List Cav) (V : Value) (o : OpQ) (r : Nat) (s : ByteArray) (v : Value) (w : World) (hk : key.size ≤ 1048576) (ht : TokIn w T t) (hx : Cavs w v l) (hU : ∀ c ∈ l, U64 c.2) (hV : OpAt w V o) (hS : SmallO o) (_hr : U64 r) (hs : s.size ≤ 1048576) (hv : Vars w) (hsh : ShaV w) (hg : GateV w) :
  Calls Tryz.prog 3 #[.string key, T, v, V, .int .u64 (r : Nat), .string s] w fun e w' => e = .returned (.bool true) ∧ Ext w w' := by
 have CE : Hid (∀ U, Ext w U → Calls Tryz.prog 9 #[] U fun e w' => e = .returned (.bool true) ∧ Ext U w') := fun U h => exam_w U (hv.ext h) (hsh.ext h) (hg.ext h)
 obtain ⟨OR, rfl, nO, oO⟩ := hV.row
 have iA : (Tryz.prog.info? 33).map (·.size) = some OR.toArray.size := by rw [List.size_toArray, nO]; kernel_rfl
 have iO : (Tryz.prog.info? 45).map (·.size) = some OR.toArray.size := by rw [List.size_toArray, nO]; kernel_rfl
 obtain ⟨tv, rfl, hTC, ht1, ht2, ht3⟩ := ht
 obtain ⟨q, cap, rfl, hqc, hqm⟩ := hTC.shape
 obtain ⟨ql, capl, rfl, _, _⟩ := hx.shape
 obtain ⟨tn, L, sg⟩ := t
 simp only at hTC hqc hqm ht1 ht2 ht3 ⊢
 obtain ⟨w1, hW1⟩ : ∃ x, w.alloc (.cells #[.string tn, .slice q L.length cap, .string sg] 24) = x := ⟨_, rfl⟩
 have hT : CB w.heap.size [.string tn, .slice q L.length cap, .string sg] w1 := hW1 ▸ CB.new w #[.string tn, .slice q L.length cap, .string sg] 24
 have hE1 : Ext w w1 := hW1 ▸ (Ext.refl _).alloc _
 obtain ⟨w2, hW2, hA, hE2, -⟩ := new_row w1 33 OR
 replace hT := hT.ext hE2
 have hE := hE1.trans hE2
 obtain ⟨bT, hbT⟩ : ∃ x, w.heap.size = x := ⟨_, rfl⟩
 obtain ⟨bA, hbA⟩ : ∃ x, w1.heap.size = x := ⟨_, rfl⟩
 have hwT : w.heap.size ≤ bT := by omega
 have hwA : w.heap.size ≤ bA := by have := hE1.size; omega
 have hTA : bT ≠ bA := by
  have : w1.heap.size = w.heap.size + 1 := by rw [← hW1]; exact World.size_alloc ..
  omega
 rw [hbT] at hT
 rw [hbA] at hA
 clear hE1 hE2
 go_enter Tryz.func3, Tryz.ntmps3
 go_upto_region 1 with fail
 clear hW1 hW2 hbT hbA
 go_wp2_with fail
 refine (CE.out _ hE).mono ?_; rintro e_ w3 ⟨rfl, h3⟩
 replace hT := hT.ext h3
 replace hA := hA.ext h3
 replace hE := hE.trans h3
 clear h3 CE
 go_upto_region 5 with fail
 obtain ⟨K, hK⟩ : ∃ K, key.extract 0 (min (key.size : Int) 100).toNat = K := ⟨_, rfl⟩
 have hKs : K.size ≤ 281474976710656 := by rw [← hK, ByteArray.size_extract]; omega
 rw [hK]
 clear hK
 obtain ⟨al, a0, a1, a2, af0, af1, af2⟩ := hT.cells3
 go_upto_region 6 with fail
 clear al a0 a1 a2 af0 af1 af2
 obtain ⟨n, hn⟩ : ∃ n, (min (L.length : Int) 10).toNat = n := ⟨_, rfl⟩
 have hnL : n ≤ L.length ∧ n ≤ 10 := by omega
 rw [hn]
 clear hn
 have hT4 := hT.set 1 (.slice q n cap) (by simp)
 have hA4 : RB bA 33 OR (w3.setCell ⟨bT, 1, none⟩ (.slice q n cap)) := hA.far hTA _
 have hE4 : Ext w (w3.setCell ⟨bT, 1, none⟩ (.slice q n cap)) := Below.setCell hE (p := ⟨bT, 1, none⟩) hwT _
 clear hT hA hE
 generalize w3.setCell ⟨bT, 1, none⟩ (.slice q n cap) = w4 at *
 have hTk : TokAt w (.agg #[.string tn, .slice q n cap, .string sg]) (tn, L.take n, sg) := ⟨_, rfl, cavs_take hTC hnL.1, ⟨by show tn.size ≤ _; omega, by show sg.size ≤ _; omega, by show (L.take n).length ≤ _; rw [List.length_take]; omega, fun c hc => ht3 c (List.mem_of_mem_take hc)⟩⟩
 have hT : CB bT [.string tn, .slice q n cap, .string sg] w4 := hT4
 clear hT4
 obtain ⟨al, a0, a1, a2, af0, af1, af2⟩ := hT.cells3
 have htn : tn.size ≤ 140737488351232 := by omega
 go_wp2_with fail
 refine (new_w K tn _ hKs (by omega) (hsh.ext hE4)).mono ?_; rintro e_ w5 ⟨rfl, h5⟩
 clear al a0 a1 a2 af0 af1 af2
 replace hT := hT.ext h5
 replace hA4 := hA4.ext h5
 replace hE4 := hE4.trans h5
 clear h5
 have hS0 : (⟨(signB K.data.toList tn.data.toList).toArray⟩ : ByteArray).size = 32 := by
  show (signB _ _).toArray.size = _
  rw [List.size_toArray, signB_len]
 generalize (⟨(signB K.data.toList tn.data.toList).toArray⟩ : ByteArray) = S0 at *
 have hM : CB w5.heap.size [.string tn, .slice none 0 0, .string S0] (w5.alloc (.cells #[.string tn, .slice none 0 0, .string S0] 24)) := CB.new w5 #[.string tn, .slice none 0 0, .string S0] 24
 have e6 : Ext w5 (w5.alloc (.cells #[.string tn, .slice none 0 0, .string S0] 24)) := (Ext.refl _).alloc _
 have hTM := hT.lt
 have hAM := hA4.lt
 have hwM : w.heap.size ≤ w5.heap.size := hE4.size
 go_upto_region 7 with fail
 replace hT := hT.ext e6
 replace hA4 := hA4.ext e6
 replace hE4 := hE4.trans e6
 have hbs := hM.lt
 clear e6
 generalize w5.alloc (.cells #[.string tn, .slice none 0 0, .string S0] 24) = w6 at *
 generalize w5.heap.size = bM at *
 go_wp2_with fail
 go_loopw [15] (fun i wr => ∃ (k : Nat) (tv : Value) (M : List Cav) (S : ByteArray), k ≤ l.length ∧ k ≤ 9 ∧ i = .int .i64 (k : Nat) ∧ Ext w wr ∧ CB bT [.string tn, .slice q n cap, .string sg] wr ∧ RB bA 33 OR wr ∧ CB bM [.string tn, tv, .string S] wr ∧ Cavs wr tv M ∧ (∀ c, tv.ownBlock = some c → bM + 1 ≤ c) ∧ M.length ≤ k ∧ (∀ c ∈ M, U64 c.2) ∧ S.size = 32 ∧ bM + 1 ≤ wr.heap.size) (fun i _ => l.length - (intOf i).toNat)
 case atStart => exact ⟨0, .slice none 0 0, [], S0, by omega, by omega, rfl, hE4, hT, hA4, hM, Sl.nil _ _, (fun c h => by cases h), by simp, (fun c h => by cases h), hS0, hbs⟩
 case round =>
  obtain ⟨k, tv, M, S, hkl, hk9, rfl, g1, g2, g3, g4, g5, g6, g7, g8, g9, g10⟩ := hrel
  clear hT hA4 hE4 hM hbs
  by_cases hlt : k < l.length ∧ k < 9
  ·obtain ⟨hlt, h9⟩ := hlt
   have hlti : (k : Int) < (l.length : Int) := by omega
   have h9i : (k : Int) < 9 := by omega
   obtain ⟨bb, off, rfl, hbl, c0, c1⟩ := (hx.ext g1).at hlt
   have hcU := hU _ (show l.getD k (0, 0) ∈ l by rw [List.getD_eq_getElem?_getD, List.getElem?_eq_getElem hlt]; exact List.getElem_mem hlt)
   generalize l.getD k (0, 0) = c at *
   obtain ⟨ck, cn⟩ := c
   simp only at c0 c1 hcU
   obtain ⟨qt, ct, rfl, _, _⟩ := g5.shape
   go_upto_region 10 with fail
   have HI : Cel3 bM (.string tn) (.slice qt M.length ct) (.string S) wr ∧ CelP bb (off + k * 2) (.int .i64 ck) (.int .u64 (cn : Nat)) wr := ⟨g4.c3, ⟨hbl, c0, c1⟩⟩
   clear c0 c1 hbl
   refine sx_ ?_
   refine rf_ (fun U => Cel3 bM (.string tn) (.slice qt M.length ct) (.string S) U ∧ CelP bb (off + k * 2) (.int .i64 ck) (.int .u64 (cn : Nat)) U) 6 7 ?_
   refine tfs [0, 1, 2, 3, 4] 31 2 (fun _ _ h hx => ⟨h.1.ext hx, h.2.ext hx⟩) HI ?_ (hq := by intro wq hwq; obtain ⟨⟨al, a0, a1, a2⟩, ⟨bl, b0, b1⟩⟩ := hwq; (repeat go_big_quiet_step (fail)); exact wpQuiet_nil rfl)
   refine f1_ 5 63 fun wm5 hxm5 => ?_
   go_wp2_with fail
   refine (narrowO_w tn S _ M (ck, cn) _ (g5.ext hxm5) hcU (by omega) (by omega) (hsh.ext (g1.trans hxm5))).mono ?_; rintro e_ w10 ⟨r_, rfl, hC, hCo, h10⟩
   have J : _ ∧ _ := ⟨HI.1.ext (hxm5.trans h10), HI.2.ext (hxm5.trans h10)⟩
   have hS1 : (⟨(signB S.data.toList (putC (ck, cn))).toArray⟩ : ByteArray).size = 32 := by
    show (signB _ _).toArray.size = _
    rw [List.size_toArray, signB_len]
   generalize (⟨(signB S.data.toList (putC (ck, cn))).toArray⟩ : ByteArray) = S1 at *
   obtain ⟨qr, cr, rfl, _, _⟩ := hC.shape
   rw [show (M ++ [(ck, cn)]).length = M.length + 1 by simp] at hC hCo
   have hl10 := g4.lt
   have hs10 := hxm5.size
   go_wp2
   refine ⟨fun _ => J, ?_⟩
   refine sx_ ?_
   refine f1_ 6 127 fun wz hxz => ?_
   obtain ⟨yl, y0, y1, y2, yf0, yf1, yf2⟩ := (((g4.ext hxm5).ext h10).ext hxz).cells3
   go_wp2_with fail
   first | refine ⟨fun h => absurd h (by decide), ?_⟩ | skip
   refine fd_ fun wy hxy => ?_
   have hz := (((g4.ext hxm5).ext h10).ext hxz).put3 (.string tn) (.slice qr (M.length + 1) cr) (.string S1)
   replace hz := hz.ext hxy
   have e10 := ((g1.trans hxm5).trans h10).trans hxz
   have eM := (Ext.cput3 e10 (b := bM) (by omega) (.string tn) (.slice qr (M.length + 1) cr) (.string S1)).trans hxy
   have hof : Off bM wz _ := (((Off.refl bM wz).setCell 0 (.string tn)).setCell 1 (.slice qr (M.length + 1) cr)).setCell 2 (.string S1)
   have hC2 := Sl.ext (Sl.off (hC.ext hxz) hof (fun c hc => by have := hCo c hc; omega)) hxy
   have hT2 := ((((((g2.ext hxm5).ext h10).ext hxz).far (c := bM) (i := 0) (by omega) (.string tn)).far (c := bM) (i := 1) (by omega) (.slice qr (M.length + 1) cr)).far (c := bM) (i := 2) (by omega) (.string S1)).ext hxy
   have hA2 := ((((((g3.ext hxm5).ext h10).ext hxz).far (c := bM) (i := 0) (by omega) (.string tn)).far (c := bM) (i := 1) (by omega) (.slice qr (M.length + 1) cr)).far (c := bM) (i := 2) (by omega) (.string S1)).ext hxy
   have hb2 := hz.lt
   clear yl y0 y1 y2 yf0 yf1 yf2
   go_wp2
   go_roundw
   case rel => exact ⟨k + 1, _, M ++ [(ck, cn)], S1, by omega, by omega, by go_num, eM, hT2, hA2, hz, hC2, (fun c hc => by have := hCo c hc; omega), by simp; omega, (fun c hc => by
    rcases List.mem_append.1 hc with h | h
    ·exact g8 c h
    ·simp at h; subst h; exact hcU), hS1, hb2⟩
   case measure => simp [intOf]; omega
  ·go_upto_region 8 with fail
   go_cut [58] from 31 (fun r w' => r = .bool false ∧ w' = wr)
   case first =>
    by_cases h1 : k < l.length
    ·have h1i : (k : Int) < (l.length : Int) := by omega
     have h9i : ¬ (k : Int) < 9 := fun h => hlt ⟨h1, by omega⟩
     go_wp2_with fail; go_meet; case rel => exact ⟨rfl, rfl⟩
    ·have h1i : ¬ (k : Int) < (l.length : Int) := by omega
     go_wp2_with fail; go_meet; case rel => exact ⟨rfl, rfl⟩
   obtain ⟨rfl, rfl⟩ := hcut
   clear hlt hx hU
   obtain ⟨qt, ct, rfl, _, _⟩ := g5.shape
   have okM : OkT (tn, M, S) := ⟨htn, by show S.size ≤ _; omega, by show M.length ≤ _; omega, g8⟩
   have hMk : TokAt wc (.agg #[.string tn, .slice qt M.length ct, .string S]) (tn, M, S) := ⟨_, rfl, g5, okM⟩
   have hM9 : M.length ≤ 10 := by omega
   clear g5 g6 g7 g8 g9 g10 okM
   go_wp2_with (refine wpList_load_row rfl 33 _ rfl bA rfl _ _ _ _ g3 Tryz.underlying33 rfl iA ?_)
   refine (refop_w _ o _ (hV.ext g1) hS).mono ?_; rintro e_ w11 ⟨V', rfl, hP, h11⟩
   obtain ⟨PR, rfl, nP, oP⟩ := hP.row
   have iP : (Tryz.prog.info? 45).map (·.size) = some PR.toArray.size := by rw [List.size_toArray, nP]; kernel_rfl
   have iZ : zOp.toArray.size = PR.toArray.size := by rw [List.size_toArray, List.size_toArray, nP]; rfl
   obtain ⟨w12, hW12, hB12, hE12, -⟩ := new_row w11 45 zOp
   obtain ⟨w13, hW13, hB, -, hEx⟩ := set_row hB12 PR
   obtain ⟨bP, hbP⟩ : ∃ x, w11.heap.size = x := ⟨_, rfl⟩
   have h13 := hEx w11 hE12 (Nat.le_refl _)
   rw [hbP] at hB12 hB hW13
   clear hEx hE12
   go_upto_region 12 with (refine wpList_store_row (cells := PR.toArray) rfl 45 _ _ rfl bP rfl rfl _ _ hB12 iP iZ oP ?_)
   try rw [hW13]
   clear hW12 hW13 hbP hB12
   have h14 := h11.trans h13
   replace g1 := g1.trans h14
   replace g2 := g2.ext h14
   replace g3 := g3.ext h14
   replace g4 := g4.ext h14
   replace hMk := hMk.ext h14
   replace hP := hP.ext h13
   clear h11 h13 h14
   have CN := fun U (h : Ext w U) => needs_w o.1 _ U (opAt_kind (hV.ext h)) (hg.ext h)
   have CN2 := fun U (h : Ext w13 U) => needs19_w o.1 _ U (opAt_kind (hP.ext h))
   unfold needsV at CN CN2
   generalize needsK o.1 = nk at CN CN2
   go_wp2_with (refine wpList_load_row rfl 33 _ rfl bA rfl _ _ _ _ g3 Tryz.underlying33 rfl iA ?_)
   refine (CN _ g1).mono ?_; rintro e_ w15 ⟨rfl, h15⟩
   go_wp2_with (refine wpList_load_row rfl 45 _ rfl bP rfl _ _ _ _ (hB.ext h15) Tryz.underlying45 rfl iP ?_)
   refine (CN2 _ h15).mono ?_; rintro e_ w16 ⟨rfl, h16⟩
   have h14 := h15.trans h16
   replace g1 := g1.trans h14
   replace g2 := g2.ext h14
   replace g3 := g3.ext h14
   replace g4 := g4.ext h14
   replace hMk := hMk.ext h14
   replace hP := hP.ext h14
   replace hB := hB.ext h14
   clear h15 h16 h14 CN CN2
   go_upto_region 16 with fail
   obtain ⟨al, a0, a1, a2, af0, af1, af2⟩ := g2.cells3
   obtain ⟨xl, x0, x1, x2, xf0, xf1, xf2⟩ := g4.cells3
   go_wp2_with fail
   clear al a0 a1 a2 af0 af1 af2
   clear xl x0 x1 x2 xf0 xf1 xf2
   have hS6 := CB.new w16 #[.string tn, .slice q n cap, .string sg, .string tn, .slice qt M.length ct, .string S] 24
   have e17 : Ext w16 (w16.alloc (.cells #[.string tn, .slice q n cap, .string sg, .string tn, .slice qt M.length ct, .string S] 24)) := (Ext.refl _).alloc _
   generalize w16.alloc (.cells #[.string tn, .slice q n cap, .string sg, .string tn, .slice qt M.length ct, .string S] 24) = w17 at *
   generalize w16.heap.size = bS at *
   replace g1 := g1.trans e17
   replace g3 := g3.ext e17
   replace g4 := g4.ext e17
   replace hMk := hMk.ext e17
   replace hP := hP.ext e17
   replace hB := hB.ext e17
   clear e17 g2
   have hTk17 := hTk.ext g1
   have hsel : ∀ j : Nat, j < 2 → ∃ (x : TokQ) (qx : Option Addr) (nx cx : Nat), TokAt w17 (.agg #[.string x.1, .slice qx nx cx, .string x.2.2]) x ∧ x.2.1.length ≤ 10 ∧ w17.cell? ⟨bS, j * 3, none⟩ = some (.string x.1) ∧ w17.cell? ⟨bS, j * 3 + 1, none⟩ = some (.slice qx nx cx) ∧ w17.cell? ⟨bS, j * 3 + 2, none⟩ = some (.string x.2.2) := fun j hj => by
    have hc : j = 0 ∨ j = 1 := by omega
    rcases hc with rfl | rfl
    ·exact ⟨(tn, L.take n, sg), q, n, cap, hTk17, by show (L.take n).length ≤ _; rw [List.length_take]; omega, hS6.cell 0 (by simp), hS6.cell 1 (by simp), hS6.cell 2 (by simp)⟩
    ·exact ⟨(tn, M, S), qt, M.length, ct, hMk, by show M.length ≤ _; omega, hS6.cell 3 (by simp), hS6.cell 4 (by simp), hS6.cell 5 (by simp)⟩
   have hSl := hS6.lt
   clear hS6 hTk17
   go_loopw [91] (fun i wr => ∃ j : Nat, j ≤ 2 ∧ i = .int .i64 (j : Nat) ∧ Ext w17 wr) (fun i _ => 2 - (intOf i).toNat)
   case atStart => exact ⟨0, by omega, rfl, Ext.refl _⟩
   case round =>
    obtain ⟨j, hj2, rfl, f1⟩ := hrel
    by_cases hj : j < 2
    ·have hji : (j : Int) < 2 := by omega
     obtain ⟨x, qx, nx, cx, hxt, hx10, c0, c1, c2⟩ := hsel j hj
     rw [← f1.cell (by exact hSl)] at c0 c1 c2
     have hbl := Nat.lt_of_lt_of_le hSl f1.size
     replace hxt := hxt.ext f1
     have hX := CB.new wr #[.string x.1, .slice qx nx cx, .string x.2.2] 24
     have e18 : Ext wr (wr.alloc (.cells #[.string x.1, .slice qx nx cx, .string x.2.2] 24)) := (Ext.refl _).alloc _
     go_upto_region 19 with fail
     clear c0 c1 c2 hbl
     generalize wr.alloc (.cells #[.string x.1, .slice qx nx cx, .string x.2.2] 24) = w18 at *
     generalize wr.heap.size = bX at *
     have f2 := f1.trans e18
     have f3 := g1.trans f2
     replace hxt := hxt.ext e18
     have xA := g3.ext f2
     have xB := hB.ext f2
     have hPf := hP.ext f2
     have hVf := hV.ext f3
     have CP := fun U (h : Ext w18 U) => gput_w _ _ x o U (hxt.ext h) (hVf.ext h) (hv.ext (f3.trans h))
     have CA := fun U (h : Ext w18 U) => gallowK_w K _ _ x o.1 r U hKs (hxt.ext h).c (opAt_kind (hVf.ext h)) (hsh.ext (f3.trans h)) (hg.ext (f3.trans h))
     have CR := fun U (h : Ext w18 U) => refT_w x.1 x.2.2 (.slice qx nx cx) x.2.1 U (by omega) (hxt.ext h).cav
     have okx : OkT x := by obtain ⟨_, _, _, h⟩ := hxt; exact h
     have CP2 := fun U (h : Ext w18 U) r_ (hc : Cavs U r_ x.2.1) => put19_w (.agg #[.string x.1, r_, .string x.2.2]) _ x o U ⟨r_, rfl, hc, okx⟩ (hPf.ext h) hS.2.2
     have CA2 := fun U (h : Ext w18 U) r_ (hc : Cavs U r_ x.2.1) => allow19_w K (.agg #[.string x.1, r_, .string x.2.2]) _ x o.1 r U hKs ⟨r_, rfl, hc, okx.tn, okx.len, okx.n⟩ (opAt_kind (hPf.ext h))
     generalize (⟨(putG x o).toArray⟩ : ByteArray) = TA at CP CP2
     generalize allowK K.data.toList x o.1 r = AL at CA CA2
     replace CP := Lib.hid CP
     replace CA := Lib.hid CA
     replace CR := Lib.hid CR
     replace CP2 := Lib.hid CP2
     replace CA2 := Lib.hid CA2
     obtain ⟨xl, x0, x1, x2, xf0, xf1, xf2⟩ := hX.cells3
     refine sx_ ?_
     refine rg_ 22 (Ext.refl w18) ?_
     refine tks [0, 1, 2, 3, 5] 47 17 (hq := by intro x; go_big_quiet_step ((first | (go_at_call 15; with_reducible exact Calls.quietE (CP.out _ ex_)) | (go_at_call 18; with_reducible exact Calls.quietE (CA.out _ ex_)))); go_big_quiet_want; refine quiet_load_row 33 _ rfl bA rfl _ _ _ _ (fun _ hw => by obtain ⟨_, rfl⟩ := hw; exact xA.ext ex_) Tryz.underlying33 rfl iA ?_; simp only [Act.put, List.setIfInBounds_toArray, List.set_cons_succ, List.set_cons_zero]; go_big_quiet_on; (iterate 2 go_big_quiet_step ((first | (go_at_call 15; with_reducible exact Calls.quietE (CP.out _ ex_)) | (go_at_call 18; with_reducible exact Calls.quietE (CA.out _ ex_))))); go_big_quiet_want; refine quiet_load_row 45 _ rfl bP rfl _ _ _ _ (fun _ hw => by obtain ⟨_, rfl⟩ := hw; exact xB.ext ex_) Tryz.underlying45 rfl iP ?_; simp only [Act.put, List.setIfInBounds_toArray, List.set_cons_succ, List.set_cons_zero]; go_big_quiet_on; exact wpQuiet_nil rfl) ?_
     refine k1_ 4 63 (Ext.refl w18) fun w1a hx1a hX1a => ?_
     go_wp2_with (go_at_call 17; go_must (refine (CR.out _ hX1a).mono ?_; rintro e_ w1b ⟨r4, rfl, q4, hs1⟩))
     have hX1b := Ext.trans hX1a hs1
     obtain ⟨q4q, q4c, rfl, _, _⟩ := q4.shape
     refine sx_ ?_
     refine k1_ 6 127 hX1b fun w2a hx2a hX2a => ?_
     replace q4 := q4.ext hx2a
     go_wp2_with (go_at_call 16; go_must (refine (CP2.out _ hX2a _ q4).mono ?_; rintro e_ w2b ⟨rfl, hs2⟩))
     have hX2b := Ext.trans hX2a hs2
     refine sx_ ?_
     refine tks [7, 8, 9, 10, 11, 12, 13, 14, 15, 17, 18] 458751 4 (hq := by intro x; (iterate 4 go_big_quiet_step ((first | (go_at_call 15; with_reducible exact Calls.quietE (CP.out _ ex_)) | (go_at_call 18; with_reducible exact Calls.quietE (CA.out _ ex_))))); go_big_quiet_want; refine quiet_load_row 33 _ rfl bA rfl _ _ _ _ (fun _ hw => by obtain ⟨_, rfl⟩ := hw; exact xA.ext ex_) Tryz.underlying33 rfl iA ?_; simp only [Act.put, List.setIfInBounds_toArray, List.set_cons_succ, List.set_cons_zero]; go_big_quiet_on; (iterate 4 go_big_quiet_step ((first | (go_at_call 15; with_reducible exact Calls.quietE (CP.out _ ex_)) | (go_at_call 18; with_reducible exact Calls.quietE (CA.out _ ex_))))); go_big_quiet_want; refine quiet_load_row 45 _ rfl bP rfl _ _ _ _ (fun _ hw => by obtain ⟨_, rfl⟩ := hw; exact xB.ext ex_) Tryz.underlying45 rfl iP ?_; simp only [Act.put, List.setIfInBounds_toArray, List.set_cons_succ, List.set_cons_zero]; go_big_quiet_on; go_big_quiet_step ((first | (go_at_call 15; with_reducible exact Calls.quietE (CP.out _ ex_)) | (go_at_call 18; with_reducible exact Calls.quietE (CA.out _ ex_)))); exact wpQuiet_nil rfl) ?_
     refine k1_ 16 524287 hX2b fun w3a hx3a hX3a => ?_
     go_wp2_with (go_at_call 17; go_must (refine (CR.out _ hX3a).mono ?_; rintro e_ w3b ⟨r5, rfl, q5, hs3⟩))
     have hX3b := Ext.trans hX3a hs3
     obtain ⟨q5q, q5c, rfl, _, _⟩ := q5.shape
     refine sx_ ?_
     refine k1_ 19 1048575 hX3b fun w4a hx4a hX4a => ?_
     replace q5 := q5.ext hx4a
     go_wp2_with (go_at_call 19; go_must (refine (CA2.out _ hX4a _ q5).mono ?_; rintro e_ w4b ⟨rfl, hs4⟩))
     have hX4b := Ext.trans hX4a hs4
     refine sx_ ?_
     refine tks [20, 21] 4194303 0 (hq := by intro x; (repeat go_big_quiet_step ((first | (go_at_call 15; with_reducible exact Calls.quietE (CP.out _ ex_)) | (go_at_call 18; with_reducible exact Calls.quietE (CA.out _ ex_))))); exact wpQuiet_nil rfl) ?_
     refine kd_ hX4b fun w5a hx5a hX5a => ?_
     clear xl x0 x1 x2 xf0 xf1 xf2
     go_wp2
     go_roundw
     case rel => exact ⟨j + 1, by omega, by go_num, f2.trans hX5a⟩
     case measure => simp [intOf]; omega
    ·have hji : ¬ (j : Int) < 2 := by omega
     replace g1 := g1.trans f1
     replace g3 := g3.ext f1
     replace g4 := g4.ext f1
     replace hMk := hMk.ext f1
     clear hsel hSl hB hP f1 hj
     obtain ⟨xl, x0, x1, x2, xf0, xf1, xf2⟩ := g4.cells3
     go_upto_region 22 with fail
     go_wp2_with (refine wpList_load_row rfl 33 _ rfl bA rfl _ _ _ _ g3 Tryz.underlying33 rfl iA ?_)
     refine (gput_w _ _ (tn, M, S) o _ hMk (hV.ext g1) (hv.ext g1)).mono ?_; rintro e_ w20 ⟨rfl, h20⟩
     clear xl x0 x1 x2 xf0 xf1 xf2
     have okM : OkT (tn, M, S) := by obtain ⟨_, _, _, h⟩ := hMk; exact h
     have okO : OkO o := by obtain ⟨_, _, _, _, _, _, _, _, _, h⟩ := hV; exact h
     have hZs : (⟨(putG (tn, M, S) o).toArray⟩ : ByteArray).size ≤ 6000 := by
      show (putG (tn, M, S) o).toArray.size ≤ _
      rw [List.size_toArray]
      have h1 := putTok_len okM
      have h2 := putO_len okO
      unfold putG
      split
      ·simp
      ·rw [List.length_append]; omega
     generalize (⟨(putG (tn, M, S) o).toArray⟩ : ByteArray) = Z at *
     replace g1 := g1.trans h20
     clear g3 g4 hMk h20 hV okM okO iA iO nO oO
     have hD := CB.new w20 #[.string s, .string Z] 9
     have e21 : Ext w20 (w20.alloc (.cells #[.string s, .string Z] 9)) := (Ext.refl _).alloc _
     go_wp2_with fail
     generalize w20.alloc (.cells #[.string s, .string Z] 9) = w21 at *
     generalize w20.heap.size = bD at *
     replace g1 := g1.trans e21
     clear e21
     have hsel : ∀ j : Nat, j < 2 → ∃ y : ByteArray, y.size ≤ 281474976710656 ∧ w21.cell? ⟨bD, j, none⟩ = some (.string y) := fun j hj => by
      have hc : j = 0 ∨ j = 1 := by omega
      rcases hc with rfl | rfl
      ·exact ⟨s, by omega, hD.cell 0 (by simp)⟩
      ·exact ⟨Z, by omega, hD.cell 1 (by simp)⟩
     have hDl := hD.lt
     clear hD hs hZs hji
     go_loopw [124] (fun i wr => ∃ j : Nat, j ≤ 2 ∧ i = .int .i64 (j : Nat) ∧ Ext w21 wr) (fun i _ => 2 - (intOf i).toNat)
     case atStart => exact ⟨0, by omega, rfl, Ext.refl _⟩
     case round =>
      obtain ⟨j2, hj2, rfl, f1⟩ := hrel
      by_cases hj : j2 < 2
      ·have hji : (j2 : Int) < 2 := by omega
       obtain ⟨y, hys, c0⟩ := hsel j2 hj
       rw [← f1.cell (by exact hDl)] at c0
       have hbl := Nat.lt_of_lt_of_le hDl f1.size
       have f2 := g1.trans f1
       go_upto_region 25 with fail
       clear c0 hbl
       have CO := gopen_w y wr hys (hv.ext f2)
       have CO2 := fun U => open19_w y U hys
       have hSm := openG_small y.data.toList
       generalize openG y.data.toList = G at *
       obtain ⟨x, o2, b2⟩ := G
       unfold GotG at CO
       unfold GotG19 at CO2
       simp only at CO CO2 hSm
       replace CO2 := Lib.hid CO2
       go_wp2_with fail
       refine CO.mono ?_; rintro e_ w25 ⟨⟨T2, V2, rfl, hT2, hV2⟩, h25⟩
       obtain ⟨TR, rfl, nT, oT⟩ := hT2.rowL
       obtain ⟨VR, rfl, nV, oV⟩ := hV2.row
       have iT : (Tryz.prog.info? 24).map (·.size) = some TR.toArray.size := by rw [List.size_toArray, nT]; kernel_rfl
       have iV : (Tryz.prog.info? 33).map (·.size) = some VR.toArray.size := by rw [List.size_toArray, nV]; kernel_rfl
       have zT : zTk.toArray.size = TR.toArray.size := by rw [List.size_toArray, List.size_toArray, nT]; rfl
       have zV : zOp.toArray.size = VR.toArray.size := by rw [List.size_toArray, List.size_toArray, nV]; rfl
       obtain ⟨wa1, wb1, wd1, ba1, bb1, e1, e2, e3, e4, ra, rb, e6, r11, r21, hd1⟩ := two_made w25 24 33 zTk zOp TR VR
       go_upto_region 26 with (first | (refine wpList_store_row (cells := TR.toArray) rfl 24 _ _ rfl ba1 rfl rfl _ _ ra iT zT oT ?_) | (refine wpList_store_row (cells := VR.toArray) rfl 33 _ _ rfl bb1 rfl rfl _ _ rb iV zV oV ?_))
       try rw [e6]
       clear e1 e2 e3 e4 e6 ra rb
       replace h25 := h25.trans hd1
       replace hT2 := hT2.ext hd1
       replace hV2 := hV2.ext hd1
       have D2 := CO2.out
       clear CO2
       go_wp2_with fail
       refine (D2 _).mono ?_; rintro e_ w26 ⟨⟨uv, V3, rfl, hc3, hV3⟩, h26⟩
       obtain ⟨UR, hUR, nU, oU⟩ : ∃ UR : List Value, #[Value.string x.1, uv, .string x.2.2] = UR.toArray ∧ UR.length = 3 ∧ UR.toArray.all (·.oneCell') = true := by
        obtain ⟨_, _, rfl, _, _⟩ := hc3.shape
        exact ⟨_, rfl, rfl, by kernel_rfl⟩
       rw [hUR]
       obtain ⟨WR, rfl, nW, oW⟩ := hV3.row
       have iU : (Tryz.prog.info? 55).map (·.size) = some UR.toArray.size := by rw [List.size_toArray, nU]; kernel_rfl
       have iW : (Tryz.prog.info? 45).map (·.size) = some WR.toArray.size := by rw [List.size_toArray, nW]; kernel_rfl
       have zU : zTk.toArray.size = UR.toArray.size := by rw [List.size_toArray, List.size_toArray, nU]; rfl
       have zW : zOp.toArray.size = WR.toArray.size := by rw [List.size_toArray, List.size_toArray, nW]; rfl
       obtain ⟨wa2, wb2, wd2, ba2, bb2, e1, e2, e3, e4, ra, rb, e6, r12, r22, hd2⟩ := two_made w26 55 45 zTk zOp UR WR
       go_upto_region 27 with (first | (refine wpList_store_row (cells := UR.toArray) rfl 55 _ _ rfl ba2 rfl rfl _ _ ra iU zU oU ?_) | (refine wpList_store_row (cells := WR.toArray) rfl 45 _ _ rfl bb2 rfl rfl _ _ rb iW zW oW ?_))
       try rw [e6]
       clear e1 e2 e3 e4 e6 ra rb
       have h27 := h26.trans hd2
       replace f2 := (f2.trans h25).trans h27
       replace f1 := (f1.trans h25).trans h27
       replace r11 := r11.ext h27
       replace r21 := r21.ext h27
       replace hT2 := hT2.ext h27
       replace hV2 := hV2.ext h27
       replace hc3 := hc3.ext hd2
       replace hV3 := hV3.ext hd2
       clear h25 h26 h27 hd1 hd2
       have CS : Hid (∀ U, Ext wd2 U → Calls Tryz.prog 22 #[.agg TR.toArray, .agg UR.toArray] U fun e w' => e = .returned (.bool true) ∧ Ext U w') := fun U h => by
        obtain ⟨v2, he, hc2, ok2⟩ := hT2
        rw [he, ← hUR]
        exact sameT_w x.1 x.2.2 v2 uv x.2.1 U ok2.len (hc2.ext h) (hc3.ext h)
       have CR : Hid (∀ U, Ext wd2 U → Calls Tryz.prog 12 #[.agg VR.toArray] U fun e w' => ∃ V', e = .returned V' ∧ OpAt w' V' o2 ∧ Ext U w') := fun U h => refop_w _ o2 U (hV2.ext h) hSm
       have CP : Hid (∀ V' U, OpAt U V' o2 → Calls Tryz.prog 23 #[V'] U fun e w' => e = .returned (.string ⟨(putO o2).toArray⟩) ∧ Ext U w') := fun V' U h => put18A h hSm.2.2
       generalize (⟨(putO o2).toArray⟩ : ByteArray) = TB at CP
       clear hc3 hT2 hV2
       refine sx_ ?_
       refine rg_ 17 (Ext.refl wd2) ?_
       refine tks [0, 1, 2, 3, 4, 5, 6, 7, 8, 9, 10, 13] 10239 5 (hq := by intro x; (iterate 4 go_big_quiet_step ((first | (go_at_call 22; with_reducible exact Calls.quietE (CS.out _ ex_)) | (go_at_call 23; with_reducible exact Calls.quietE (CP.out _ _ (hV3.ext ex_)))))); go_big_quiet_want; refine quiet_load_row 24 _ rfl ba1 rfl _ _ _ _ (fun _ hw => by obtain ⟨_, rfl⟩ := hw; exact r11.ext ex_) Tryz.underlying24 rfl iT ?_; simp only [Act.put, List.setIfInBounds_toArray, List.set_cons_succ, List.set_cons_zero]; go_big_quiet_on; go_big_quiet_want; refine quiet_load_row 55 _ rfl ba2 rfl _ _ _ _ (fun _ hw => by obtain ⟨_, rfl⟩ := hw; exact r12.ext ex_) Tryz.underlying55 rfl iU ?_; simp only [Act.put, List.setIfInBounds_toArray, List.set_cons_succ, List.set_cons_zero]; go_big_quiet_on; (iterate 4 go_big_quiet_step ((first | (go_at_call 22; with_reducible exact Calls.quietE (CS.out _ ex_)) | (go_at_call 23; with_reducible exact Calls.quietE (CP.out _ _ (hV3.ext ex_)))))); go_big_quiet_want; refine quiet_load_row 33 _ rfl bb1 rfl _ _ _ _ (fun _ hw => by obtain ⟨_, rfl⟩ := hw; exact r21.ext ex_) Tryz.underlying33 rfl iV ?_; simp only [Act.put, List.setIfInBounds_toArray, List.set_cons_succ, List.set_cons_zero]; go_big_quiet_on; go_big_quiet_want; refine quiet_load_row 45 _ rfl bb2 rfl _ _ _ _ (fun _ hw => by obtain ⟨_, rfl⟩ := hw; exact r22.ext ex_) Tryz.underlying45 rfl iW ?_; simp only [Act.put, List.setIfInBounds_toArray, List.set_cons_succ, List.set_cons_zero]; go_big_quiet_on; exact wpQuiet_nil rfl) ?_
       refine k1_ 11 12287 (Ext.refl wd2) fun w1a hx1a hX1a => ?_
       go_wp2_with (go_at_call 12; go_must (refine (CR.out _ hX1a).mono ?_; rintro e_ w1b ⟨V4, rfl, q4, hs1⟩))
       have hX1b := Ext.trans hX1a hs1
       refine sx_ ?_
       refine k1_ 12 16383 hX1b fun w2a hx2a hX2a => ?_
       replace q4 := q4.ext hx2a
       go_wp2_with (go_at_call 23; go_must (refine (CP.out _ _ q4).mono ?_; rintro e_ w2b ⟨rfl, hs2⟩))
       have hX2b := Ext.trans hX2a hs2
       refine sx_ ?_
       refine tks [14, 15, 16] 131071 0 (hq := by intro x; (repeat go_big_quiet_step ((first | (go_at_call 22; with_reducible exact Calls.quietE (CS.out _ ex_)) | (go_at_call 23; with_reducible exact Calls.quietE (CP.out _ _ (hV3.ext ex_)))))); exact wpQuiet_nil rfl) ?_
       refine kd_ hX2b fun w3a hx3a hX3a => ?_
       go_wp2
       go_roundw
       case rel => exact ⟨j2 + 1, by omega, by go_num, f1.trans hX3a⟩
       case measure => simp [intOf]; omega
      ·have hji : ¬ (j2 : Int) < 2 := by omega
       go_wp2
       go_ret
       exact ⟨rfl, g1.trans f1⟩
end Go.Proofs.YtefjdmjkofaajaaGreatDoor
