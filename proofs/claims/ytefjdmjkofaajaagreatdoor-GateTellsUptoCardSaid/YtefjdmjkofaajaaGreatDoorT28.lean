/- Texts of the base. -/

import Derived.Test.YtefjdmjkofaajaaGreatDoorT8
import Derived.Test.YtefjdmjkofaajaaGreatDoorT25
namespace Go.Dm
theorem Ext.trans' {w w' w'' : World} (h : Ext w w') (h' : Ext w' w'') : Ext w w'' := h.trans h'
end Go.Dm
namespace Go.Proofs.YtefjdmjkofaajaaGreatDoor
open Go.RowKit Go.Dm
theorem leaves_tmps {P : Program} {fn : Func} {t t' : Array Value} {R : Ending → World → Prop} (h : ∀ w, (results fn t).run P w = (results fn t').run P w) : ∀ (ds : List Deferred) (u : FrameMode) (w : World), Leaves P fn t R ds u w → Leaves P fn t' R ds u w
 | [], .returning, w, ⟨v, h1, h2⟩ => ⟨v, by rw [← h w]; exact h1, h2⟩
 | [], .panicking _, _, h' => h'
 | [], .run, _, h' => h'
 | d :: ds, u, w, ⟨h0, fv, cap, f, args, h1, h2, h3⟩ => ⟨h0, fv, cap, f, args, h1, h2, h3.mono fun e u' w' he => by
   cases e with
   | returned v => exact leaves_tmps h ds _ _ he
   | panicked c => exact leaves_tmps h ds _ _ he
   | outgrown => exact he⟩
theorem put_getD (a : Act) {d i : Nat} (v : Value) (h : d ≠ i) : (a.put (some d) v).tmps[i]?.getD undef = a.tmps[i]?.getD undef := by
 simp only [Act.put]
 rw [Array.getElem?_setIfInBounds_ne h]
theorem sget_hq {R : Ending → World → Prop} {c : List PanicEntry} {a : Act} {w : World} {v : Value} {d : Nat} (h4 : d ≠ 4) (h5 : d ≠ 5) (h6 : d ≠ 6)
  (h : bodyPostD Tryz.prog Tryz.f115 R (Exit.panic c) (a.put (some d) v) w) : bodyPostD Tryz.prog Tryz.f115 R (Exit.panic c) a w := by
 refine leaves_tmps (fun w => ?_) _ _ _ h
 simp only [results, Tryz.results115]
 simp [put_getD a v h4, put_getD a v h5, put_getD a v h6]
theorem sget_door (B : Nat) (v : Value) (w0 wr : World) (R : Ending → World → Prop) (tmps : Array Value) (hB : B = w0.heap.size) (hb : Ext w0 wr) (hK : GP B v wr)
  (t4 : tmps[4]?.getD undef = .pointer (some ⟨B, 0, none⟩)) (t5 : tmps[5]?.getD undef = .pointer (some ⟨B + 1, 0, none⟩)) (t6 : tmps[6]?.getD undef = .pointer (some ⟨B + 1 + 1, 0, none⟩))
  (h : ∀ w', Ext w0 w' → R (.returned (.tuple #[.slice none 0 0, .int .i64 0, .bool false])) w') :
  bodyPostD Tryz.prog Tryz.f115 R (Exit.panic [{ v := badV, recovered := false }]) { tmps := tmps, defers := [{ target := .fn (.func 139) #[.pointer (some ⟨B, 0, none⟩), .pointer (some ⟨B + 1, 0, none⟩), .pointer (some ⟨B + 1 + 1, 0, none⟩)], args := #[] }] } wr := by
 refine leaves_cons (f := 139) (args := #[.pointer (some ⟨B, 0, none⟩), .pointer (some ⟨B + 1, 0, none⟩), .pointer (some ⟨B + 1 + 1, 0, none⟩)]) (by simp) (by simp [go_sem]) ?_
 refine (sget1_panicking B (B + 1) (B + 1 + 1) _ _ _ [] wr hK.l hK.n hK.o (by omega) (by omega) (by omega)).mono ?_
 rintro e u' w'' ⟨rfl, rfl, rfl⟩
 have l1 := ((hK.l.set (.slice none 0 0)).other (c := B + 1) (by omega) (.int .i64 0)).other (c := B + 1 + 1) (by omega) (.bool false)
 have n1 := ((hK.n.other (c := B) (by omega) (.slice none 0 0)).set (.int .i64 0)).other (c := B + 1 + 1) (by omega) (.bool false)
 have o1 := ((hK.o.other (c := B) (by omega) (.slice none 0 0)).other (c := B + 1) (by omega) (.int .i64 0)).set (.bool false)
 have hE : Ext w0 (((wr.setCell ⟨B, 0, none⟩ (.slice none 0 0)).setCell ⟨B + 1, 0, none⟩ (.int .i64 0)).setCell ⟨B + 1 + 1, 0, none⟩ (.bool false)) :=
  ((hb.setCell (p := ⟨B, 0, none⟩) (by rw [hB]; exact Nat.le_refl _) _).setCell (p := ⟨B + 1, 0, none⟩) (by rw [hB]; exact Nat.le_succ _) _).setCell (p := ⟨B + 1 + 1, 0, none⟩) (by show w0.heap.size ≤ B + 1 + 1; omega) _
 have hR := h _ hE
 simp [Leaves, settle, results, Tryz.results115, go_sem, t4, t5, t6, l1.2.1, n1.2.1, o1.2.1, hR]
set_option maxHeartbeats 4000000 in
set_option maxRecDepth 100000 in
theorem sgetO_w (s : ByteArray) (p : Int) (w : World) (hs : s.size ≤ 281474976710656) (ht : Tabs w) :
  Calls Tryz.prog 115 #[.string s, .int .i64 p] w fun e w' => ∃ r R n b, e = .returned (.tuple #[r, .int .i64 n, .bool b]) ∧ Terms w' r R ∧ FitR R ∧ R.length ≤ 4 ∧
   (∃ T, R.map rowT = T.map mkT ∧ atI getSelL [] s.data.toList p = (T, n, b)) ∧ OwnT w.heap.size r R ∧ Ext w w' := by
 have hmf : ∀ (fn : Fn) (first cap : Array Value) (w : World), (Instr.makeFunc fn first cap).run Tryz.prog w = .ok (.func fn first cap) w := fun _ _ _ _ => rfl
 have hln : s.data.toList.length = s.size := rfl
 have hK := laid4_gs w s p 28 3 4 207
 have hE := laid4_ext w s p 28 3 4 207
 have hS := laid4_size w s p 28 3 4 207
 have nothing : ∀ w', Ext w w' → atI getSelL [] s.data.toList p = ([], 0, false) → ∃ r R n b, Ending.returned (.tuple #[.slice none 0 0, .int .i64 0, .bool false]) = Ending.returned (.tuple #[r, .int .i64 n, .bool b]) ∧ Terms w' r R ∧ FitR R ∧ R.length ≤ 4 ∧
   (∃ T, R.map rowT = T.map mkT ∧ atI getSelL [] s.data.toList p = (T, n, b)) ∧ OwnT w.heap.size r R ∧ Ext w w' := fun w' h hz => ⟨_, [], 0, false, rfl, Terms.nil _, (fun r hr => by cases hr), by simp, ⟨[], rfl, hz⟩, OwnT.nil _, h⟩
 by_cases hc : (getI s.data.toList p).2.2 = true ∧ (getI s.data.toList p).1 ≤ 4
 ·obtain ⟨hc1, hc2⟩ := hc
  have hin : ¬ (p < 0 ∨ (s.data.toList.length : Int) ≤ p) := fun h => by rw [getI_out h] at hc1; cases hc1
  obtain ⟨q, rfl⟩ : ∃ q : Nat, p = (q : Int) := ⟨p.toNat, by omega⟩
  have hI := getI_in (l := s.data.toList) (k := q) (by omega)
  have hz : atI getSelL [] s.data.toList (q : Int) = _ := atI_pos getSelL_nil
  obtain ⟨u, n, hg, hI, hu⟩ : ∃ u n, getL (s.data.toList.drop q) = some (u, n) ∧ getI s.data.toList (q : Int) = (u, (q : Int) + (n : Int), true) ∧ u ≤ 4 := by
   cases hg : getL (s.data.toList.drop q) with
   | none => rw [hg] at hI; rw [hI] at hc1; cases hc1
   | some x =>
    obtain ⟨u, n⟩ := x
    rw [hg] at hI
    rw [hI] at hc2
    exact ⟨u, n, rfl, hI, hc2⟩
  have hN : Hid (readsL getTermL (s.data.toList.drop q) n u = none → atI getSelL [] s.data.toList (q : Int) = ([], 0, false)) := fun h => by
   rw [hz, getSelL_none (by rw [someL_some hg, if_pos hu, h])]
  have hY : Hid (∀ T r, readsL getTermL (s.data.toList.drop q) n u = some (T, r) → atI getSelL [] s.data.toList (q : Int) = if rightS (T.map mkT) = true then (T, (q : Int) + (r : Int), true) else ([], 0, false)) := fun T r h => by
   rw [hz, getSelL_some (by rw [someL_some hg, if_pos hu, h])]
   by_cases hr : rightS (T.map mkT) = true
   ·rw [if_pos hr, if_pos hr]
   ·rw [if_neg hr, if_neg hr]
  have e0 : (q : Int) + (n : Int) = ((q + n : Nat) : Int) := by omega
  rw [e0] at hI
  have C := fun U K => number_yes (w.heap.size + 1 + 1 + 1) s (q : Int) _ u 4 U hs K hu (by omega) hI
  clear hz hg hc1 hc2 hin hI e0
  replace C := Lib.hid C
  replace nothing := Lib.hid nothing
  go_enter_defers Tryz.func115, Tryz.ntmps115
  go_wp2_with fail
  change Calls _ _ _ (laid4 w s q 28 3 4 207) _
  generalize laid4 w s q 28 3 4 207 = w0 at *
  refine (C.out w0 hK.r).mono ?_; rintro e w1 ⟨rfl, hK1, h1⟩
  have hG := hK.read h1 hK1
  have hE1 : Ext w w1 := hE.grown h1 hE.size (fun k hk => by injection hk with hk; omega)
  have hS1 : w.heap.size + 4 ≤ w1.heap.size := by have := h1.size; omega
  clear C hK hE hS hK1 h1
  go_wp2
  go_loopw [15] (fun i' wr => ∃ (j : Nat) (R : List RowS) (T : List (Bs × Bool × List Bs)) (r : Nat) (v : Value), j ≤ u ∧ i' = .int .i64 j ∧ GS w.heap.size s v ((q + r : Nat) : Int) wr ∧ TRow 179 (w.heap.size + 4) wr v j R ∧
   Ext w wr ∧ w.heap.size + 4 ≤ wr.heap.size ∧ Hid (R.map rowT = T.map mkT ∧ R.length = j ∧ FitR R ∧ ∀ r ∈ R, ∀ c, r.2.2.1.ownBlock = some c → w.heap.size + 4 ≤ c) ∧ Hid (readsL getTermL (s.data.toList.drop q) n j = some (T, r))) (fun i' _ => u - (intOf i').toNat)
  case atStart => exact ⟨0, [], [], n, .slice none 0 0, by omega, rfl, hG, TRow.nil _ _ _, hE1, hS1, ⟨rfl, rfl, (fun r hr => by cases hr), fun r hr => by cases hr⟩, rfl⟩
  case round =>
   obtain ⟨j, R, T, r, v, hj, rfl, hGr, hRow, hEr, hSr, hRT, HR⟩ := hrel
   by_cases hlt : j < u
   ·have HI := hGr.l
    have hst := readsL_succ HR.out
    rw [List.drop_drop] at hst
    replace hst := Lib.hid hst
    go_wp2_with fail
    refine sx_ ?_
    refine rf_ (Go.Dm.Cell w.heap.size v) 5 6 ?_
    refine Dm.wpF_take (i := 0) (listed' := (Dm.bits 6 1)) (fun _ _ h hx => h.ext hx) HI (by kernel_rfl) (by kernel_rfl) rfl (fun _ _ _ _ h => sget_hq (by decide) (by decide) (by decide) h) ?_; apply Exists.intro; refine And.intro (fun wq hwq => ?_) ?_
    ·obtain ⟨_, a0, _⟩ := hwq; go_big_quiet_step (fail); exact wpQuiet_nil rfl
    refine Dm.wpF_take (i := 1) (listed' := (Dm.bits 6 3)) (fun _ _ h hx => h.ext hx) HI (by kernel_rfl) (by kernel_rfl) rfl (fun _ _ _ _ h => sget_hq (by decide) (by decide) (by decide) h) ?_; apply Exists.intro; refine And.intro (fun wq hwq => ?_) ?_
    ·obtain ⟨_, a0, _⟩ := hwq; go_big_quiet_step (fail); exact wpQuiet_nil rfl
    refine f1_ 2 7 fun wm2 hxm2 => ?_
    have G2 := hGr.ext hxm2
    have T2 := hRow.ext hxm2
    have E2 := hEr.trans' hxm2
    have S2 := Nat.le_trans hSr hxm2.size
    go_wp2_with fail
    refine (rterm_w _ s (q + r) wm2 hs G2.r).mono ?_; rintro e w5 ⟨h5, hcase⟩
    rcases hcase with hyes | ⟨hno, rfl⟩
    rotate_left
    ·have hno' := hst.out
     rw [hno] at hno'
     have hz' := hN.out (readsL_none hno' (show j + 1 ≤ u by omega))
     have hGt := G2.torn h5
     have hE5 : Ext w w5 := E2.grown h5 E2.size (fun k hk => by injection hk with hk; omega)
     exact sget_door w.heap.size _ w w5 _ _ rfl hE5 hGt rfl rfl rfl (fun w' hw' => nothing.out w' hw' hz')
    obtain ⟨T5, r5, row, hT5, rfl, hrow, hv, hown, hK5⟩ := hyes
    have G5 := G2.read h5 hK5
    have R5 := T2.grown hRT.out.2.2.2 h5 (fun c e => by injection e with e; omega)
    have E5 : Ext w w5 := E2.grown h5 E2.size (fun k hk => by injection hk with hk; omega)
    have S5 := Nat.le_trans S2 h5.size
    have hap := T2.apart_new hown
    obtain ⟨k1, n1, v1, vals1⟩ := row
    have hv : Strs w5 v1 vals1 := hv
    have hst' : Hid (readsL getTermL (s.data.toList.drop q) n (j + 1) = some (T ++ [T5], r + r5)) := by
     show _ = _
     rw [hst.out, hT5]
    have hRT' : Hid ((R ++ [(k1, n1, v1, vals1)]).map rowT = (T ++ [T5]).map mkT ∧ (R ++ [(k1, n1, v1, vals1)]).length = j + 1 ∧ FitR (R ++ [(k1, n1, v1, vals1)]) ∧ ∀ r ∈ R ++ [(k1, n1, v1, vals1)], ∀ c, r.2.2.1.ownBlock = some c → w.heap.size + 4 ≤ c) := by
     obtain ⟨x1, x2, x3, x4⟩ := hRT.out
     refine ⟨by rw [List.map_append, List.map_append, x1]; simp only [List.map_cons, List.map_nil, hrow], by simp [x2], fun y hy => ?_, fun y hy c hc => ?_⟩
     ·rcases List.mem_append.1 hy with hy | hy
      ·exact x3 y hy
      ·rw [List.mem_singleton.1 hy, hrow]; exact mkT_fit (getTermL_fit hT5)
     ·rcases List.mem_append.1 hy with hy | hy
      ·exact x4 y hy c hc
      ·rw [List.mem_singleton.1 hy] at hc
       exact Nat.le_trans S2 (hown c hc)
    obtain ⟨q3, cap3, rfl, _, _⟩ := hv.shape
    clear hst hT5 hrow hown G2 T2 E2 S2 h5 hK5
    go_wp2_with fail
    refine ⟨(by first | exact G5.l | exact fun _ => G5.l), ?_⟩
    replace HI := G5.l
    refine sx_ ?_
    refine f1_ 3 15 fun wm3 hxm3 => ?_
    have ha := hxm3.trans ((Ext.refl wm3).alloc (.cells #[.string k1, .bool n1, .slice q3 vals1.length cap3] 179))
    have hl5 := Sl.lit wm3 179 3 1 #[.string k1, .bool n1, .slice q3 vals1.length cap3] rfl (by simp [maxLen])
    go_wp2_with fail
    generalize wm3.alloc (.cells #[.string k1, .bool n1, .slice q3 vals1.length cap3] 179) = w6 at *
    replace G5 := G5.ext ha
    replace R5 := R5.ext ha
    replace E5 := E5.trans' ha
    replace S5 := Nat.le_trans S5 ha.size
    replace hv := hv.ext ha
    refine ⟨(by first | exact G5.l | exact fun _ => G5.l), ?_⟩
    replace HI := G5.l
    refine sx_ ?_
    refine f1_ 4 31 fun wm4 hxm4 => ?_
    replace G5 := G5.ext hxm4
    replace R5 := R5.ext hxm4
    replace E5 := E5.trans' hxm4
    replace S5 := Nat.le_trans S5 hxm4.size
    replace hv := hv.ext hxm4
    replace hl5 := hl5.ext hxm4
    have hbase : ∀ c, v.ownBlock = some c → w.heap.size + 4 ≤ c := fun c e => (R5.lt e).1
    refine wpList_appG rfl _ _ Tryz.slTerm rfl S5 rfl R5 (r := (k1, n1, .slice q3 vals1.length cap3, vals1)) rfl hl5 hv (Or.inr hap) (by omega) ?_; intro v6 w7 R7 g7
    replace G5 := G5.grown g7 (fun c e => by have := hbase c e; omega)
    replace E5 : Ext w w7 := E5.grown g7 E5.size (fun c e => by have := hbase c e; omega)
    replace S5 := Nat.le_trans S5 g7.size
    refine wpList_nil ?_
    refine ⟨(by first | exact G5.l | exact fun _ => G5.l), ?_⟩
    replace HI := G5.l
    obtain ⟨q6, cap6, rfl⟩ := row_shape R7.row
    refine sx_ ?_
    refine f1_ 5 63 fun wz hxz => ?_
    obtain ⟨_, z0, z1⟩ := (G5.ext hxz).l
    go_wp2_with fail
    first | refine ⟨fun h => absurd h (by decide), ?_⟩ | skip
    refine fd_ fun wy hxy => ?_
    have G8 := ((G5.ext hxz).set (.slice q6 (j + 1) cap6)).ext hxy
    have gS := grown_set wz w.heap.size 0 (.slice q6 (j + 1) cap6)
    have R8 := ((R7.ext hxz).grown hRT'.out.2.2.2 gS (fun c e => by injection e with e; omega)).ext hxy
    have E8a : Ext w (wz.setCell ⟨w.heap.size, 0, none⟩ (.slice q6 (j + 1) cap6)) := (E5.trans' hxz).setCell (p := ⟨w.heap.size, 0, none⟩) (Nat.le_refl _) (.slice q6 (j + 1) cap6)
    have E8 : Ext w wy := E8a.trans' hxy
    have S8 : w.heap.size + 4 ≤ wy.heap.size := by have h1 := hxz.size; have h2 := hxy.size; rw [World.size_setCell] at h2; omega
    clear z0 z1 G5 R7 E5 S5 gS
    go_wp2
    go_roundw
    case rel => exact ⟨j + 1, R ++ [(k1, n1, .slice q3 vals1.length cap3, vals1)], T ++ [T5], r + r5, .slice q6 (j + 1) cap6, by omega, by go_num, (by rw [← Nat.add_assoc]; exact G8), R8, E8, S8, hRT', hst'⟩
    case measure => simp [intOf]; omega
   ·obtain rfl : j = u := by omega
    obtain ⟨qv, capv, rfl⟩ := row_shape hRow.row
    obtain ⟨x1, x2, x3, x4⟩ := hRT.out
    have hT := hRow.terms x2.symm
    have CR := sright_w R _ wr (by omega) x3 hT (ht.ext hEr)
    have hYY := hY.out T r HR.out
    rw [x1] at CR
    clear hRT hY hN
    cases hR : rightS (T.map mkT) with
    | false =>
     rw [hR] at CR hYY
     rw [if_neg (by simp)] at hYY
     replace hYY := Lib.hid hYY
     obtain ⟨_, l1, l2⟩ := hGr.l
     go_wp2_with fail
     refine CR.mono ?_; rintro e w3 ⟨rfl, h3⟩
     have G3 := hGr.ext h3
     go_wp2_with fail
     exact sget_door w.heap.size _ w w3 _ _ rfl (hEr.trans' h3) ⟨G3.l, G3.n, G3.o⟩ rfl rfl rfl (fun w' hw' => nothing.out w' hw' hYY.out)
    | true =>
     rw [hR] at CR hYY
     rw [if_pos rfl] at hYY
     have e1 : (q : Int) + (r : Int) = ((q + r : Nat) : Int) := by omega
     rw [e1] at hYY
     generalize ((q + r : Nat) : Int) = pos at *
     have hT4 : T.length ≤ 4 := by have := (rightS_iff.1 hR).1; rwa [List.length_map] at this
     have hR4 : R.length ≤ 4 := by have := congrArg List.length x1; rw [List.length_map, List.length_map] at this; omega
     replace hYY := Lib.hid hYY
     replace x1 := Lib.hid x1
     replace x2 := Lib.hid x2
     clear hR hT4 e1 HR
     obtain ⟨_, l1, l2⟩ := hGr.l
     go_wp2_with fail
     refine CR.mono ?_; rintro e w3 ⟨rfl, h3⟩
     have G3 := hGr.ext h3
     have R3 := hRow.ext h3
     have E3 := hEr.trans' h3
     have HI : Go.Dm.Cell w.heap.size (.slice qv j capv) w3 ∧ Cell2 (w.heap.size + 1 + 1 + 1) (.string s) (.int .i64 pos) w3 := ⟨G3.l, G3.r⟩
     clear l1 l2 hGr hRow hT CR hEr hSr
     go_wp2_with fail
     refine sx_ ?_
     refine rf_ (fun w' => Go.Dm.Cell w.heap.size (.slice qv j capv) w' ∧ Cell2 (w.heap.size + 1 + 1 + 1) (.string s) (.int .i64 pos) w') 7 8 ?_
     refine Dm.wpF_take (i := 0) (listed' := (Dm.bits 8 1)) (fun _ _ h hx => ⟨h.1.ext hx, h.2.ext hx⟩) HI (by kernel_rfl) (by kernel_rfl) rfl (fun _ _ _ _ h => sget_hq (by decide) (by decide) (by decide) h) ?_; apply Exists.intro; refine And.intro (fun wq hwq => ?_) ?_
     ·obtain ⟨⟨_, a0, _⟩, ⟨_, a1, a2, _, _⟩⟩ := hwq; go_big_quiet_step (fail); exact wpQuiet_nil rfl
     refine Dm.wpF_take (i := 1) (listed' := (Dm.bits 8 3)) (fun _ _ h hx => ⟨h.1.ext hx, h.2.ext hx⟩) HI (by kernel_rfl) (by kernel_rfl) rfl (fun _ _ _ _ h => sget_hq (by decide) (by decide) (by decide) h) ?_; apply Exists.intro; refine And.intro (fun wq hwq => ?_) ?_
     ·obtain ⟨⟨_, a0, _⟩, ⟨_, a1, a2, _, _⟩⟩ := hwq; go_big_quiet_step (fail); exact wpQuiet_nil rfl
     refine Dm.wpF_take (i := 2) (listed' := (Dm.bits 8 7)) (fun _ _ h hx => ⟨h.1.ext hx, h.2.ext hx⟩) HI (by kernel_rfl) (by kernel_rfl) rfl (fun _ _ _ _ h => sget_hq (by decide) (by decide) (by decide) h) ?_; apply Exists.intro; refine And.intro (fun wq hwq => ?_) ?_
     ·obtain ⟨⟨_, a0, _⟩, ⟨_, a1, a2, _, _⟩⟩ := hwq; go_big_quiet_step (fail); exact wpQuiet_nil rfl
     refine Dm.wpF_take (i := 3) (listed' := (Dm.bits 8 15)) (fun _ _ h hx => ⟨h.1.ext hx, h.2.ext hx⟩) HI (by kernel_rfl) (by kernel_rfl) rfl (fun _ _ _ _ h => sget_hq (by decide) (by decide) (by decide) h) ?_; apply Exists.intro; refine And.intro (fun wq hwq => ?_) ?_
     ·obtain ⟨⟨_, a0, _⟩, ⟨_, a1, a2, _, _⟩⟩ := hwq; go_big_quiet_step (fail); exact wpQuiet_nil rfl
     refine Dm.wpF_take (i := 4) (listed' := (Dm.bits 8 31)) (fun _ _ h hx => ⟨h.1.ext hx, h.2.ext hx⟩) HI (by kernel_rfl) (by kernel_rfl) rfl (fun _ _ _ _ h => sget_hq (by decide) (by decide) (by decide) h) ?_; apply Exists.intro; refine And.intro (fun wq hwq => ?_) ?_
     ·obtain ⟨⟨_, a0, _⟩, ⟨_, a1, a2, _, _⟩⟩ := hwq; go_big_quiet_step (fail); exact wpQuiet_nil rfl
     refine f1_ 5 63 fun wm5 hxm5 => ?_
     have L5 := G3.l.ext hxm5
     have N5 := (G3.n.ext hxm5).other (c := w.heap.size) (by omega) (.slice qv j capv)
     have O5 := (G3.o.ext hxm5).other (c := w.heap.size) (by omega) (.slice qv j capv)
     have V5 := (G3.r.ext hxm5).far (c := w.heap.size) (i := 0) (by omega) (.slice qv j capv)
     have R5 := (R3.ext hxm5).grown x4 (grown_set wm5 w.heap.size 0 (.slice qv j capv)) (fun c e => by injection e with e; omega)
     have E5 : Ext w (wm5.setCell ⟨w.heap.size, 0, none⟩ (.slice qv j capv)) := (E3.trans' hxm5).setCell (p := ⟨w.heap.size, 0, none⟩) (Nat.le_refl _) (.slice qv j capv)
     obtain ⟨_, z0, z1⟩ := id L5
     replace L5 := L5.set (.slice qv j capv)
     go_wp2_with fail
     have HI5 := And.intro L5 V5
     refine ⟨(by first | exact HI5 | exact fun _ => HI5), ?_⟩
     replace HI := HI5
     clear z0 z1 G3 R3 E3
     refine sx_ ?_
     refine f1_ 6 127 fun wm6 hxm6 => ?_
     have L6 := (L5.ext hxm6).other (c := w.heap.size + 1) (by omega) (.int .i64 pos)
     have N6 := N5.ext hxm6
     have O6 := (O5.ext hxm6).other (c := w.heap.size + 1) (by omega) (.int .i64 pos)
     have V6 := (V5.ext hxm6).far (c := w.heap.size + 1) (i := 0) (by omega) (.int .i64 pos)
     have R6 := (R5.ext hxm6).grown x4 (grown_set wm6 (w.heap.size + 1) 0 (.int .i64 pos)) (fun c e => by injection e with e; omega)
     have E6 : Ext w (wm6.setCell ⟨w.heap.size + 1, 0, none⟩ (.int .i64 pos)) := (Ext.trans' E5 hxm6).setCell (p := ⟨w.heap.size + 1, 0, none⟩) (Nat.le_succ _) (.int .i64 pos)
     obtain ⟨_, z0, z1⟩ := id N6
     replace N6 := N6.set (.int .i64 pos)
     go_wp2_with fail
     have HI6 := And.intro L6 V6
     refine ⟨(by first | exact HI6 | exact fun _ => HI6), ?_⟩
     replace HI := HI6
     clear z0 z1 L5 N5 O5 V5 R5 E5 HI5
     refine sx_ ?_
     refine f1_ 7 255 fun wz hxz => ?_
     obtain ⟨_, z0, z1⟩ := O6.ext hxz
     go_wp2_with fail
     first | refine ⟨fun h => absurd h (by decide), ?_⟩ | skip
     refine fd_ fun wy hxy => ?_
     have L8 := ((L6.ext hxz).other (c := w.heap.size + 1 + 1) (by omega) (.bool true)).ext hxy
     have N8 := ((N6.ext hxz).other (c := w.heap.size + 1 + 1) (by omega) (.bool true)).ext hxy
     have O8 := ((O6.ext hxz).set (.bool true)).ext hxy
     have R8 := ((R6.ext hxz).grown x4 (grown_set wz (w.heap.size + 1 + 1) 0 (.bool true)) (fun c e => by injection e with e; omega)).ext hxy
     have E8a : Ext w (wz.setCell ⟨w.heap.size + 1 + 1, 0, none⟩ (.bool true)) := (Ext.trans' E6 hxz).setCell (p := ⟨w.heap.size + 1 + 1, 0, none⟩) (by show w.heap.size ≤ w.heap.size + 1 + 1; omega) (.bool true)
     have E8 : Ext w wy := E8a.trans' hxy
     clear z0 z1 L6 N6 O6 V6 R6 E6 HI6 HI
     go_wp2
     refine leaves_cons (f := 139) (args := #[.pointer (some ⟨w.heap.size, 0, none⟩), .pointer (some ⟨w.heap.size + 1, 0, none⟩), .pointer (some ⟨w.heap.size + 1 + 1, 0, none⟩)]) (by simp) (by simp [go_sem]) ?_
     refine (sget1_idle _ _ _ _).mono ?_
     rintro e u' w'' ⟨rfl, rfl, rfl⟩
     refine ⟨.tuple #[.slice qv j capv, .int .i64 pos, .bool true], by simp [results, Tryz.results115, go_sem, L8.2.1, N8.2.1, O8.2.1], ?_⟩
     exact ⟨_, R, _, true, rfl, R8.terms x2.out.symm, x3, hR4, ⟨T, x1.out, hYY.out⟩, ⟨fun c e => by have := (R8.lt e).1; omega, fun x hx c e => by have := x4 x hx c e; omega⟩, E8⟩
 ·have hz : atI getSelL [] s.data.toList p = ([], 0, false) := by
   by_cases h2 : (getI s.data.toList p).2.2 = true
   ·have hin : ¬ (p < 0 ∨ (s.data.toList.length : Int) ≤ p) := fun h => by rw [getI_out h] at h2; cases h2
    obtain ⟨q, rfl⟩ : ∃ q : Nat, p = (q : Int) := ⟨p.toNat, by omega⟩
    rw [getI_in (by omega)] at h2 hc
    rw [atI_pos getSelL_nil]
    cases hg : getL (s.data.toList.drop q) with
    | none => rw [hg] at h2; cases h2
    | some x =>
     obtain ⟨u, n⟩ := x
     rw [hg] at hc
     rw [getSelL_none (by rw [someL_some hg, if_neg (fun h => hc ⟨rfl, h⟩)])]
   ·exact getSelI_no (by simpa using h2)
  have C := fun U K => number_no (w.heap.size + 1 + 1 + 1) s p 4 U hs K (by omega) (fun h => by
   have : ¬ (getI s.data.toList p).1 ≤ 4 := fun h' => hc ⟨h, h'⟩
   omega)
  replace hz := Lib.hid hz
  replace C := Lib.hid C
  replace nothing := Lib.hid nothing
  clear hc hS
  go_enter_defers Tryz.func115, Tryz.ntmps115
  go_wp2_with fail
  change Calls _ _ _ (laid4 w s p 28 3 4 207) _
  generalize laid4 w s p 28 3 4 207 = wr at *
  refine (C.out wr hK.r).mono ?_; rintro e w1 ⟨rfl, h1⟩
  have hG := hK.torn h1
  have hE1 : Ext w w1 := hE.grown h1 hE.size (fun k hk => by injection hk with hk; omega)
  exact sget_door w.heap.size _ w w1 _ _ rfl hE1 hG rfl rfl rfl (fun w' hw' => nothing.out w' hw' hz.out)
def noTermV : Value := .tuple #[.agg #[.string ⟨#[]⟩, .bool false, .slice none 0 0], .int .i64 0, .bool false]
set_option maxHeartbeats 4000000 in
set_option maxRecDepth 100000 in
theorem smterm_w (s : ByteArray) (p : Nat) (w : World) (hs : s.size ≤ 281474976710656) :
    Calls Tryz.prog 142 #[.string s, .int .i64 p] w fun e w' => Ext w w' ∧
      ((∃ (T : Bs × Bool × List Bs) (r : Nat) (row : RowS), getTermL (s.data.toList.drop p) = some (T, r) ∧ e = .returned (.tuple #[.agg #[.string row.1, .bool row.2.1, row.2.2.1], .int .i64 ((p + r : Nat) : Int), .bool true]) ∧ rowT row = mkT T ∧ Strs w' row.2.2.1 row.2.2.2 ∧ (∀ c, row.2.2.1.ownBlock = some c → w.heap.size ≤ c)) ∨
       (getTermL (s.data.toList.drop p) = none ∧ e = .returned noTermV)) := by
  unfold noTermV
  have hW : Ext w (w.alloc (.cells #[.string ⟨#[]⟩, .bool false, .slice none 0 0] 180)) := (Ext.refl _).alloc _
  have R0 := Cell3.new w (.string ⟨#[]⟩) (.bool false) (.slice none 0 0) 180
  have CT := fun (q : Int) U => rgettext_w s q 32 U hs (by omega)
  have CG := fun (q : Int) U => rget_w s q U hs
  have A1 : atI (getTextL 32) [] s.data.toList (p : Int) = _ := atI_pos (getTextL_nil 32)
  have C1 := CT (p : Int)
  replace CT := Lib.hid CT
  cases hT : getTextL 32 (s.data.toList.drop p) with
  | none =>
    have hz := Lib.hid (getTermL_no1 hT)
    rw [hT] at A1
    rw [A1] at C1
    have C2 := CG 0
    generalize getI s.data.toList 0 = G at C2
    obtain ⟨u, n2, o⟩ := G
    simp only at C1 C2
    clear A1 hT CG CT
    replace C1 := Lib.hid C1
    replace C2 := Lib.hid C2
    have K1 := fun w' (h : Ext (w.alloc (.cells #[.string ⟨#[]⟩, .bool false, .slice none 0 0] 180)) w') => R0.ext h
    go_enter Tryz.func142, Tryz.ntmps142
    go_wp2_with fail
    refine (C1.out _).mono ?_; rintro e w1 ⟨rfl, h1⟩
    go_wp2_with fail
    refine (C2.out _).mono ?_; rintro e w2 ⟨rfl, h2⟩
    have K2 := K1 w2 (h1.trans h2)
    have hB := below_put3 (hW.trans (h1.trans h2)) (Nat.le_refl _) (.string ⟨#[]⟩) (.bool false) (.slice none 0 0)
    have K3 := K2.put (.string ⟨#[]⟩) (.bool false) (.slice none 0 0)
    obtain ⟨_, y0, y1, y2, y3, y4, y5⟩ := id K2
    go_wp2
    obtain ⟨_, k0, k1, k2, _, _, _⟩ := K3
    refine bodyPost_ret (v := .tuple #[.agg #[.string ⟨#[]⟩, .bool false, .slice none 0 0], .int .i64 0, .bool false]) (by simp [results, Tryz.results142, go_sem, k0, k1, k2]) rfl ?_
    exact ⟨hB, Or.inr ⟨hz.out, rfl⟩⟩
  | some x =>
    obtain ⟨k, n⟩ := x
    rw [hT] at A1
    rw [A1] at C1
    have A2 : getI s.data.toList ((p + n : Nat) : Int) = _ := (getI_at _ _).trans (atI_pos getL_nil)
    rw [← List.drop_drop] at A2
    have C2 := CG ((p + n : Nat) : Int)
    have e0 : ((p + n : Nat) : Int) = (p : Int) + (n : Int) := by omega
    rw [e0] at C2 A2
    cases hN : getL ((s.data.toList.drop p).drop n) with
    | none =>
      have hz := Lib.hid (getTermL_no2 hT hN)
      rw [hN] at A2
      rw [A2] at C2
      simp only at C1 C2
      clear A1 A2 hT hN CG CT e0
      replace C1 := Lib.hid C1
      replace C2 := Lib.hid C2
      have K1 := fun w' (h : Ext (w.alloc (.cells #[.string ⟨#[]⟩, .bool false, .slice none 0 0] 180)) w') => R0.ext h
      go_enter Tryz.func142, Tryz.ntmps142
      go_wp2_with fail
      refine (C1.out _).mono ?_; rintro e w1 ⟨rfl, h1⟩
      go_wp2_with fail
      refine (C2.out _).mono ?_; rintro e w2 ⟨rfl, h2⟩
      have K2 := K1 w2 (h1.trans h2)
      have hB := below_put3 (hW.trans (h1.trans h2)) (Nat.le_refl _) (.string ⟨#[]⟩) (.bool false) (.slice none 0 0)
      have K3 := K2.put (.string ⟨#[]⟩) (.bool false) (.slice none 0 0)
      obtain ⟨_, y0, y1, y2, y3, y4, y5⟩ := id K2
      go_wp2
      obtain ⟨_, k0, k1, k2, _, _, _⟩ := K3
      refine bodyPost_ret (v := .tuple #[.agg #[.string ⟨#[]⟩, .bool false, .slice none 0 0], .int .i64 0, .bool false]) (by simp [results, Tryz.results142, go_sem, k0, k1, k2]) rfl ?_
      exact ⟨hB, Or.inr ⟨hz.out, rfl⟩⟩
    | some x =>
      obtain ⟨u, m⟩ := x
      have hz := getTermL_mid hT hN
      rw [hN] at A2
      rw [A2] at C2
      simp only at C1 C2
      clear A1 A2 hT hN CG
      by_cases h9 : u ≤ 9
      · rw [if_pos h9] at hz
        obtain ⟨h, hh⟩ : ∃ h, h = u / 2 := ⟨_, rfl⟩
        have hd2 : (u : Int) / 2 = (h : Int) := by omega
        have hwh : IntKind.i64.wrap (h : Int) = (h : Int) := by rw [IntKind.wrap_i64]; omega
        have hno : ((u : Int) % 2 == 1) = (u % 2 == 1) := by rw [Bool.eq_iff_iff, beq_iff_eq, beq_iff_eq]; omega
        have h4 : h ≤ 4 := by omega
        have h9u : decide ((9 : Int) < (u : Int)) = false := decide_eq_false (by omega)
        rw [← hh] at hz
        generalize (u % 2 == 1) = no at *
        generalize hKB : (⟨k.toArray⟩ : ByteArray) = KB at *
        replace hKB := Lib.hid hKB
        replace hz := Lib.hid hz
        replace hh := Lib.hid hh
        have e1 : (p : Int) + (n : Int) + (m : Int) = ((p + (n + m) : Nat) : Int) := by omega
        rw [e1] at C2
        clear e0 e1
        replace C1 := Lib.hid C1
        replace C2 := Lib.hid C2
        go_enter Tryz.func142, Tryz.ntmps142
        go_wp2_with fail
        refine (C1.out _).mono ?_; rintro e w1 ⟨rfl, h1⟩
        go_wp2_with fail
        refine (C2.out _).mono ?_; rintro e w2 ⟨rfl, h2⟩
        have R2 := R0.ext (h1.trans h2)
        have E2 := hW.trans (h1.trans h2)
        have hlt2 : w.heap.size < w2.heap.size := R2.lt
        have hA := (Ext.refl w2).alloc (.cells #[.string KB, .bool no, .slice none 0 0] 180)
        have T3 := Cell3.new w2 (.string KB) (.bool no) (.slice none 0 0) 180
        have R3 := R2.ext hA
        have E3 := E2.trans hA
        clear C1 C2 R2 E2 R0 hA h1 h2 hW
        go_wp2
        generalize hw3 : w2.alloc (.cells #[.string KB, .bool no, .slice none 0 0] 180) = w3 at *
        replace hw3 := Lib.hid hw3
        obtain ⟨B3, hB3⟩ : ∃ B3, B3 = w3.heap.size := ⟨_, rfl⟩
        have hb3 : w2.heap.size < w3.heap.size := T3.lt
        have hbb : w.heap.size < B3 ∧ w2.heap.size < B3 := by omega
        go_loopw [1, 13] (fun a' i' wr => ∃ (j : Nat) (vs : List ByteArray) (r : Nat) (v : Value), j ≤ h ∧ i' = .int .i64 j ∧ a' = .int .i64 ((p + r : Nat) : Int) ∧ Cell3 w2.heap.size (.string KB) (.bool no) v wr ∧
          Cell3 w.heap.size (.string ⟨#[]⟩) (.bool false) (.slice none 0 0) wr ∧ wr.ownsRow B3 9 1 v j (vs.map .string) ∧ vs.length = j ∧ B3 ≤ wr.heap.size ∧ Ext w wr ∧ Hid (readsL (getTextL 32) (s.data.toList.drop p) (n + m) j = some (bytesOf vs, r))) (fun _ i' _ => h - (intOf i').toNat)
        case atStart => exact ⟨0, [], n + m, .slice none 0 0, by omega, rfl, rfl, T3, R3, World.ownsRow_nil _ _ _ _, rfl, by omega, E3, rfl⟩
        case round =>
          obtain ⟨j, vs, r, v, hj, rfl, rfl, hTj, hRj, ho, hvl, hBj, hEj, HR⟩ := hrel
          by_cases hlt : j < h
          · have hst := readsL_succ HR.out
            have A1 : atI (getTextL 32) [] s.data.toList ((p + r : Nat) : Int) = _ := atI_pos (getTextL_nil 32)
            rw [← List.drop_drop] at A1
            have C := CT.out ((p + r : Nat) : Int) wr
            rw [A1] at C
            cases hX : getTextL 32 ((s.data.toList.drop p).drop r) with
            | none =>
              rw [hX] at hst C
              have hz' : Hid (getTermL (s.data.toList.drop p) = none) := by
                have := readsL_none hst (show j + 1 ≤ h by omega)
                show _ = _
                rw [hz.out, this]
              simp only at C
              clear hst A1 hX
              go_wp2_with fail
              refine C.mono ?_; rintro e w5 ⟨rfl, h5⟩
              have K2 := hRj.ext h5
              have hB := below_put3 (hEj.trans h5) (Nat.le_refl _) (.string ⟨#[]⟩) (.bool false) (.slice none 0 0)
              have K3 := K2.put (.string ⟨#[]⟩) (.bool false) (.slice none 0 0)
              obtain ⟨_, y0, y1, y2, y3, y4, y5⟩ := id K2
              go_wp2
              obtain ⟨_, k0, k1, k2, _, _, _⟩ := K3
              refine bodyPost_ret (v := .tuple #[.agg #[.string ⟨#[]⟩, .bool false, .slice none 0 0], .int .i64 0, .bool false]) (by simp [results, Tryz.results142, go_sem, k0, k1, k2]) rfl ?_
              exact ⟨hB, Or.inr ⟨hz'.out, rfl⟩⟩
            | some x =>
              obtain ⟨t, n2⟩ := x
              rw [hX] at hst C
              simp only at C
              have e2 : ((p + r : Nat) : Int) + (n2 : Int) = ((p + (r + n2) : Nat) : Int) := by omega
              rw [e2] at C
              generalize hTB : (⟨t.toArray⟩ : ByteArray) = TB at *
              have hst' : Hid (readsL (getTextL 32) (s.data.toList.drop p) (n + m) (j + 1) = some (bytesOf (vs ++ [TB]), r + n2)) := by
                show _ = _
                rw [hst, ← hTB]
                simp [bytesOf]
              clear hst hTB A1 hX e2
              go_wp2_with fail
              refine C.mono ?_; rintro e w5 ⟨rfl, h5⟩
              have ha := h5.trans ((Ext.refl w5).alloc (.cells #[.string TB] 9))
              have T5 := hTj.ext h5
              have T6 := hTj.ext ha
              have R6 := hRj.ext ha
              have o6 := Ext.row ho ha
              have E6 := hEj.trans ha
              have B6 := Nat.le_trans hBj ha.size
              have hl6 := Sl.lit w5 9 1 1 #[.string TB] rfl (by simp [maxLen])
              have hq : ∀ c, v.ownBlock = some c → B3 ≤ c := fun c e => (World.ownsRow.lt o6 c e).1
              obtain ⟨_, t0, t1, t2, _, _, _⟩ := T5
              replace hq := Lib.hid hq
              clear C
              go_wp2_with (at_builtin; refine wpList_app rfl _ _ Tryz.slStr rfl rfl o6 rfl hl6 (strs_one [TB]) (by omega) B6 ?_; intro v6 w7 o7 g7; obtain ⟨q6, cap6, rfl⟩ := row_shape o7; have T7 := T6.grown g7 (fun e => by have := hq.out _ e; omega); obtain ⟨_, z0, z1, z2, z3, z4, z5⟩ := id T7)
              have R7 := R6.grown g7 (fun e => by have := hq.out _ e; omega)
              have E7 : Ext w w7 := E6.grown g7 E6.size (fun c e => by have := hq.out _ e; omega)
              have B7 := Nat.le_trans B6 g7.size
              have T8 := T7.set2 (.slice q6 (j + 1) cap6)
              have R8 := R7.far (c := w2.heap.size) (i := 2) (by omega) (.slice q6 (j + 1) cap6)
              have gS := grown_set w7 w2.heap.size 2 (.slice q6 (j + 1) cap6)
              have o8 := grown_row o7 gS (fun c e => by injection e with e; omega)
              have E8 : Ext w (w7.setCell ⟨w2.heap.size, 2, none⟩ (.slice q6 (j + 1) cap6)) := E7.setCell (p := ⟨w2.heap.size, 2, none⟩) (by show w.heap.size ≤ w2.heap.size; omega) _
              have B8 : B3 ≤ (w7.setCell ⟨w2.heap.size, 2, none⟩ (.slice q6 (j + 1) cap6)).heap.size := by rw [World.size_setCell]; exact B7
              rw [← strs_snoc] at o8
              go_roundw
              case rel => exact ⟨j + 1, vs ++ [TB], r + n2, .slice q6 (j + 1) cap6, by omega, by go_num, rfl, T8, R8, o8, by simp [hvl], B8, E8, hst'⟩
              case measure => simp [intOf]; omega
          · obtain rfl : j = h := by omega
            obtain ⟨q6, cap6, rfl⟩ := row_shape ho
            have hvs : Strs wr (.slice q6 j cap6) vs := Strs.of_row ho hvl.symm
            have hq : ∀ c, (Value.slice q6 j cap6).ownBlock = some c → B3 ≤ c := fun c e => (World.ownsRow.lt ho c e).1
            have hfin : Hid (getTermL (s.data.toList.drop p) = some ((k, no, bytesOf vs), r)) := by
              show _ = _
              rw [hz.out, HR.out]
            have R8 := hRj.put (.string KB) (.bool no) (.slice q6 j cap6)
            have G8 := below_put3 hEj (Nat.le_refl _) (.string KB) (.bool no) (.slice q6 j cap6)
            have V8 : Strs (((wr.setCell ⟨w.heap.size, 0, none⟩ (.string KB)).setCell ⟨w.heap.size, 1, none⟩ (.bool no)).setCell ⟨w.heap.size, 2, none⟩ (.slice q6 j cap6)) (.slice q6 j cap6) vs := by
              cases q6 with
              | none =>
                have : vs = [] := by
                  by_cases h0 : vs.length = 0
                  · exact List.length_eq_zero_iff.1 h0
                  · subst hvl
                    obtain ⟨_, _, e, _⟩ := hvs.at (k := 0) (by omega)
                    cases e
                subst this
                exact ⟨rfl, hvs.2.choose, hvs.2.choose_spec.choose, hvs.2.choose_spec.choose_spec.1, hvs.2.choose_spec.choose_spec.2.1, hvs.2.choose_spec.choose_spec.2.2.1, hvs.2.choose_spec.choose_spec.2.2.2.1, Or.inl rfl⟩
              | some a =>
                obtain ⟨ab, ao, asp⟩ := a
                have := hq ab rfl
                subst hvl
                by_cases h0 : vs.length = 0
                · have : vs = [] := List.length_eq_zero_iff.1 h0
                  subst this
                  exact ⟨rfl, hvs.2.choose, hvs.2.choose_spec.choose, hvs.2.choose_spec.choose_spec.1, hvs.2.choose_spec.choose_spec.2.1, hvs.2.choose_spec.choose_spec.2.2.1, hvs.2.choose_spec.choose_spec.2.2.2.1, Or.inl rfl⟩
                · obtain ⟨_, _, e, _⟩ := hvs.at (k := 0) (by omega)
                  injection e with e; injection e with e1 e2 e3
                  subst e1 e2 e3
                  exact Sl.far (i := 2) (Sl.far (i := 1) (Sl.far (i := 0) hvs (by omega) _) (by omega) _) (by omega) _
            obtain ⟨_, r0, r1, r2, r3, r4, r5⟩ := hRj
            obtain ⟨_, s0, s1, s2, _, _, _⟩ := hTj
            have hq' : Hid (∀ c, (Value.slice q6 j cap6).ownBlock = some c → w.heap.size ≤ c) := fun c e => by have := hq c e; omega
            clear ho hvs hq HR hz
            go_wp2
            obtain ⟨_, k0, k1, k2, _, _, _⟩ := R8
            refine bodyPost_ret (v := .tuple #[.agg #[.string KB, .bool no, .slice q6 j cap6], .int .i64 ((p + r : Nat) : Int), .bool true]) (by simp [results, Tryz.results142, go_sem, k0, k1, k2]) rfl ?_
            refine ⟨G8, Or.inl ⟨(k, no, bytesOf vs), r, (KB, no, .slice q6 j cap6, vs), hfin.out, rfl, ?_, V8, hq'.out⟩⟩
            rw [← hKB.out]
            simp only [rowT, mkT, bytesOf, List.map_map, Prod.mk.injEq, true_and]
            conv => lhs; rw [← List.map_id vs]
            exact List.map_congr_left fun x _ => by cases x; simp
      · rw [if_neg h9] at hz
        have h9u : decide ((9 : Int) < (u : Int)) = true := decide_eq_true (by omega)
        replace hz := Lib.hid hz
        clear h9 e0 CT
        replace C1 := Lib.hid C1
        replace C2 := Lib.hid C2
        have K1 := fun w' (h : Ext (w.alloc (.cells #[.string ⟨#[]⟩, .bool false, .slice none 0 0] 180)) w') => R0.ext h
        go_enter Tryz.func142, Tryz.ntmps142
        go_wp2_with fail
        refine (C1.out _).mono ?_; rintro e w1 ⟨rfl, h1⟩
        go_wp2_with fail
        refine (C2.out _).mono ?_; rintro e w2 ⟨rfl, h2⟩
        have K2 := K1 w2 (h1.trans h2)
        have hB := below_put3 (hW.trans (h1.trans h2)) (Nat.le_refl _) (.string ⟨#[]⟩) (.bool false) (.slice none 0 0)
        have K3 := K2.put (.string ⟨#[]⟩) (.bool false) (.slice none 0 0)
        obtain ⟨_, y0, y1, y2, y3, y4, y5⟩ := id K2
        go_wp2
        obtain ⟨_, k0, k1, k2, _, _, _⟩ := K3
        refine bodyPost_ret (v := .tuple #[.agg #[.string ⟨#[]⟩, .bool false, .slice none 0 0], .int .i64 0, .bool false]) (by simp [results, Tryz.results142, go_sem, k0, k1, k2]) rfl ?_
        exact ⟨hB, Or.inr ⟨hz.out, rfl⟩⟩
end Go.Proofs.YtefjdmjkofaajaaGreatDoor
