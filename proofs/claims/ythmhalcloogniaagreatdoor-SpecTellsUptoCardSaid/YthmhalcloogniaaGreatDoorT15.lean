/- Texts one behind the other: Chapter 11: the walk of the program's Parse. -/
import Derived.Test.YthmhalcloogniaaGreatDoorT31
import Derived.Test.YthmhalcloogniaaGreatDoorT14
import Derived.Test.YthmhalcloogniaaGreatDoorT9
import Derived.Test.YthmhalcloogniaaGreatDoorT24
import Derived.Lib.AtoiAllCases
namespace Go.Dm
open Go Go.RowKit
/-- The number that Atoi hands back. -/
def atoiV (l : Bs) : Int := match Lib.atoiAll l with
  | .ok v => v
  | .syntax => 0
  | .range => Lib.atoiSat l
theorem atoiV_dec {u : Nat} (h : u ≤ 100) : atoiV (Lib.decDigits u) = u := by
  have h2 : ∀ u : Fin 101, atoiV (Lib.decDigits u.val) = (u.val : Int) := by decide +kernel
  exact h2 ⟨u, by omega⟩
/-- The job that the program makes of words. -/
def progX (ws : List Bs) : SpQ := (⟨(wordAt ws 0).toArray⟩, (parseV (wordAt ws 1)).1, (atoiV (wordAt ws 2), atoiV (wordAt ws 3), atoiV (wordAt ws 4)), (parseS (wordAt ws 5)).1)
theorem parseV_ok (t : Bs) : OkV (parseV t).1 := by
  unfold parseV
  split
  · exact parseA_ok _
  · exact okV_no
theorem progX_ok (ws : List Bs) : OkV (progX ws).2.1 := parseV_ok _
theorem progX_eq {ws : List Bs} {y : SpQ} (h : parseX ws = (y, true)) : progX ws = y := by
  obtain ⟨h1, h2, rfl⟩ := parseX_yes h
  obtain ⟨hu, hn, hr, _⟩ := chkX_iff.1 h1
  obtain ⟨n1, n2, n3, n4, n5, n6⟩ := inNum_iff.1 hn
  obtain ⟨s, d, ⟨a, b, c⟩, S⟩ := y
  simp only at n1 n2 n3 n4 n5 n6 hr h2
  show ((⟨s.data.toList.toArray⟩, (parseV (textV d)).1, (atoiV (Lib.decDigits a.toNat), atoiV (Lib.decDigits b.toNat), atoiV (Lib.decDigits c.toNat)), (parseS (textS S)).1) : SpQ) = _
  rw [parseV_text h2, sparse_text hr, atoiV_dec (by omega), atoiV_dec (by omega), atoiV_dec (by omega), Int.toNat_of_nonneg (by omega), Int.toNat_of_nonneg (by omega), Int.toNat_of_nonneg (by omega)]
theorem parseX_prog (ws : List Bs) : parseX ws = if chkX (progX ws) = 0 ∧ splitC 32 (textX (progX ws)) = ws then (progX ws, true) else (noSp, false) := by
  rcases h : parseX ws with ⟨y, b⟩
  cases b with
  | true =>
    have e := progX_eq h
    obtain ⟨h1, h2, h3⟩ := parseX_yes h
    rw [e, if_pos ⟨h1, by rw [words_split h1]; exact h3⟩]
  | false =>
    have e := parseX_no h
    rw [if_neg, e]
    rintro ⟨h1, h2⟩
    have := parseX_if (progX_ok ws) h1 h2
    rw [h] at this
    injection this with _ this
    cases this
/-- What Parse hands back. -/
def GotP (w : World) (G : SpQ × Bool) (e : Ending) : Prop :=
  ∃ v R, e = .returned (.tuple #[spVal G.1.1 (vG G.1.2.1) G.1.2.2.1 v, .bool G.2]) ∧ Terms w v R ∧ FitR R ∧ R.length ≤ 4 ∧ R.map rowT = G.1.2.2.2 ∧ OkV G.1.2.1
theorem GotP.no (w : World) : GotP w (noSp, false) (.returned (.tuple #[.agg #[.string ⟨#[]⟩, .int .u64 0, .int .u64 0, .int .u64 0, .int .u64 0, .int .i64 0, .int .i64 0, .int .i64 0, .slice none 0 0], .bool false])) :=
  ⟨.slice none 0 0, [], rfl, Terms.nil w, (fun r hr => by cases hr), by simp, rfl, okV_no⟩
theorem wordAt_bytes {ws : List ByteArray} {k : Nat} (hk : k < ws.length) : wordAt (bytesOf ws) k = (strAt ws k).data.toList := by
  simp [wordAt, bytesOf, strAt, hk]
end Go.Dm
namespace Go.Proofs.YthmhalcloogniaaGreatDoor
open Go.RowKit Go.Dm
theorem atoi_w (s : ByteArray) (hs : s.size ≤ 281474976710656) (w : World) (hv : VarsV w) :
    Calls Tryz.prog 42 #[.string s] w fun e w' => ∃ er, e = .returned (.tuple #[.int .i64 (atoiV s.data.toList), er]) ∧ Ext w w' := by
  unfold atoiV
  cases h : Lib.atoiAll s.data.toList with
  | ok u =>
    refine (Tryz.strconv_Atoi_ok s (by omega) u h w).mono ?_
    rintro e w' ⟨rfl, hw⟩
    rcases hw with rfl | ⟨t, rfl⟩
    · exact ⟨_, rfl, Ext.refl _⟩
    · exact ⟨_, rfl, Lib.bytesWorld_below w _ t⟩
  | «syntax» =>
    obtain ⟨ev, h1, h2⟩ := hv.syn
    refine (Tryz.strconv_Atoi_syntax s hs h ev w h1 h2).mono ?_
    rintro e w' ⟨N, rfl, _, _, hb⟩
    exact ⟨_, rfl, hb⟩
  | range =>
    obtain ⟨ev, h1, h2⟩ := hv.rng
    refine (Tryz.strconv_Atoi_range s hs h ev w h1 h2).mono ?_
    rintro e w' ⟨N, rfl, _, _, hb⟩
    exact ⟨_, rfl, hb⟩

set_option maxHeartbeats 2000000 in
theorem number1_w (ws : List ByteArray) (v : Value) (c k : Nat) (w : World) (hk : k < ws.length) (hx : Strs w v ws) (hs : ∀ x ∈ ws, x.size ≤ 1048576) (_hm : ws.length ≤ 1048576) (_hcl : c < w.heap.size) (hc : w.cell? ⟨c, 0, none⟩ = some v) (hv : VarsV w) :
    Calls Tryz.prog 41 #[.int .i64 (k : Nat), .pointer (some ⟨c, 0, none⟩)] w fun e w' => e = .returned (.int .i64 (atoiV (strAt ws k).data.toList)) ∧ Ext w w' := by
  obtain ⟨q, cap, rfl, _, _⟩ := hx.shape
  obtain ⟨b, off, rfl, hbl, c0⟩ := hx.at hk
  have C := fun U (h : Ext w U) => atoi_w (strAt ws k) (by have := hs _ (strAt_mem hk); omega) U (hv.ext h)
  generalize atoiV (strAt ws k).data.toList = z at *
  generalize strAt ws k = s at *
  replace C := Lib.hid C
  go_enter Tryz.func41, Tryz.ntmps41
  go_wp2_with fail
  refine (C.out _ (Ext.refl _)).mono ?_; rintro e w1 ⟨er, rfl, h1⟩
  go_wp2
  go_ret
  exact ⟨rfl, h1⟩

set_option maxHeartbeats 16000000 in
set_option maxRecDepth 100000 in
theorem xparse_w (ws : List ByteArray) (va : Value) (w : World) (hm : ws.length ≤ 1048576) (hs : ∀ x ∈ ws, x.size ≤ 1048576) (hx : Strs w va ws) (ht : Vars w) (hv : VarsV w) :
    Calls Tryz.prog 15 #[va] w fun e w' => GotP w' (parseX (bytesOf ws)) e ∧ Ext w w' := by
  obtain ⟨q, cap, rfl, _, _⟩ := hx.shape
  have hV0 : CB w.heap.size [.slice q ws.length cap] (w.alloc (.cells #[.slice q ws.length cap] 28)) := CB.new w #[.slice q ws.length cap] 28
  have hB0 : CB (w.heap.size + 1) [.string ⟨#[]⟩, .int .u64 0, .int .u64 0, .int .u64 0, .int .u64 0, .int .i64 0, .int .i64 0, .int .i64 0, .slice none 0 0] ((w.alloc (.cells #[.slice q ws.length cap] 28)).alloc (.cells #[.string ⟨#[]⟩, .int .u64 0, .int .u64 0, .int .u64 0, .int .u64 0, .int .i64 0, .int .i64 0, .int .i64 0, .slice none 0 0] 27)) := by
    have h := CB.new (w.alloc (.cells #[.slice q ws.length cap] 28)) #[.string ⟨#[]⟩, .int .u64 0, .int .u64 0, .int .u64 0, .int .u64 0, .int .i64 0, .int .i64 0, .int .i64 0, .slice none 0 0] 27
    rw [World.size_alloc] at h
    exact h
  have hE0 : Ext w ((w.alloc (.cells #[.slice q ws.length cap] 28)).alloc (.cells #[.string ⟨#[]⟩, .int .u64 0, .int .u64 0, .int .u64 0, .int .u64 0, .int .i64 0, .int .i64 0, .int .i64 0, .slice none 0 0] 27)) := ((Ext.refl _).alloc _).alloc _
  replace hV0 := hV0.ext ((Ext.refl _).alloc (.cells #[.string ⟨#[]⟩, .int .u64 0, .int .u64 0, .int .u64 0, .int .u64 0, .int .i64 0, .int .i64 0, .int .i64 0, .slice none 0 0] 27))
  by_cases h6 : ws.length = 6
  · have W := fun k (hk : k < 6) => wordAt_bytes (ws := ws) (k := k) (by omega)
    have hG := parseX_prog (bytesOf ws)
    have hprog : progX (bytesOf ws) = (strAt ws 0, (parseV (strAt ws 1).data.toList).1, (atoiV (strAt ws 2).data.toList, atoiV (strAt ws 3).data.toList, atoiV (strAt ws 4).data.toList), (parseS (strAt ws 5).data.toList).1) := by
      unfold progX
      rw [W 0 (by omega), W 1 (by omega), W 2 (by omega), W 3 (by omega), W 4 (by omega), W 5 (by omega)]
    rw [hprog] at hG
    have hok := parseV_ok (strAt ws 1).data.toList
    have hsz : ∀ k, k < 6 → (strAt ws k).size ≤ 1048576 := fun k hk => hs _ (strAt_mem (by omega))
    have hc := fun k (hk : k < 6) => hx.at (k := k) (by omega)
    obtain ⟨b, off, rfl, hbl, _⟩ := hc 0 (by omega)
    have hcs : ∀ k, k < 6 → w.cell? ⟨b, off + k, none⟩ = some (.string (strAt ws k)) := fun k hk => by
      obtain ⟨b', off', e, _, h⟩ := hc k hk
      injection e with e; injection e with e1 e2
      subst e1 e2
      exact h
    have N := fun k (hk : k < 6) U (h : Ext w U) (hcl : CB w.heap.size [.slice (some ⟨b, off, none⟩) ws.length cap] U) => number1_w ws _ w.heap.size k U (by omega) (hx.ext h) hs hm hcl.lt (hcl.cell 0 (by simp)) (hv.ext h)
    have CV := fun U (h : Ext w U) => vparse_w (strAt ws 1) U (by have := hsz 1 (by omega); omega) (hv.ext h)
    have CS := fun U (h : Ext w U) => sparseO_w (strAt ws 5) U (by have := hsz 5 (by omega); omega) (ht.ext h)
    have h0 := hsz 0 (by omega)
    have CK := fun (n : Nums3) (v : Value) (R : List RowS) U (h : Ext w U) (hl : R.length ≤ 4) (hf : FitR R) (hy : Terms U v R) => xcheck_w (strAt ws 0) (parseV (strAt ws 1).data.toList).1 n v R U (by omega) hok (by omega) hf hy (ht.ext h)
    have CT := fun (n : Nums3) (v : Value) (R : List RowS) U (h : Ext w U) (hl : R.length ≤ 4) (hf : FitR R) (hy : Terms U v R) => xtext_w (strAt ws 0) (parseV (strAt ws 1).data.toList).1 n v R U (by omega) hok (by omega) hf hy (ht.ext h) (hv.ext h).tab
    have CL := fun (x : ByteArray) (h : x.size ≤ 1400) U (hU : Ext w U) => split_w x 32 U (by omega) (ht.ext hU)
    have CE := fun (l : List ByteArray) (v : Value) U (hU : Ext w U) (hl : l.length ≤ 35184372088832) (h : Strs U v l) => equalS_w l ws v _ U hl h (hx.ext hU)
    have hlen := fun (n : Nums3) (S : List TermS) (h : chkX (strAt ws 0, (parseV (strAt ws 1).data.toList).1, n, S) = 0) => textX_len h hok
    have N2 := N 2 (by omega)
    have N3 := N 3 (by omega)
    have N4 := N 4 (by omega)
    have hinj : ∀ ss : List ByteArray, bytesOf ss = bytesOf ws → ss = ws := fun ss h => bytesOf_inj h
    have c0 := hcs 0 (by omega)
    have c1 := hcs 1 (by omega)
    have c5 := hcs 5 (by omega)
    rw [Nat.add_zero] at c0
    generalize parseX (bytesOf ws) = G at *
    generalize hS5 : parseS (strAt ws 5).data.toList = g5 at *
    obtain ⟨S, sb⟩ := g5
    generalize hV1 : parseV (strAt ws 1).data.toList = g1 at *
    obtain ⟨d, db⟩ := g1
    generalize atoiV (strAt ws 2).data.toList = za at *
    generalize atoiV (strAt ws 3).data.toList = zb at *
    generalize atoiV (strAt ws 4).data.toList = zc at *
    generalize strAt ws 0 = s0 at *
    generalize strAt ws 1 = s1 at *
    generalize strAt ws 5 = s5 at *
    simp only at hG hok CV CK CT hlen
    generalize hD : vG d = D at *
    unfold vVal vF at CV
    rw [hD] at CV
    clear hcs hc N W hprog hS5 hV1 hsz hs
    rw [h6] at CE N2 N3 N4 hV0 hB0 hE0
    rw [h6]
    replace CV := Lib.hid CV
    replace CS := Lib.hid CS
    replace CK := Lib.hid CK
    replace CT := Lib.hid CT
    replace CL := Lib.hid CL
    replace CE := Lib.hid CE
    replace hlen := Lib.hid hlen
    replace hinj := Lib.hid hinj
    replace N2 := Lib.hid N2
    replace N3 := Lib.hid N3
    replace N4 := Lib.hid N4
    replace hG := Lib.hid hG
    replace hok := Lib.hid hok
    replace hD := Lib.hid hD
    generalize hW0 : (w.alloc (.cells #[.slice (some ⟨b, off, none⟩) 6 cap] 28)).alloc (.cells #[.string ⟨#[]⟩, .int .u64 0, .int .u64 0, .int .u64 0, .int .u64 0, .int .i64 0, .int .i64 0, .int .i64 0, .slice none 0 0] 27) = W at *
    have d0 := (hE0).cell (p := ⟨b, off, none⟩) hbl
    have d1 := (hE0).cell (p := ⟨b, off + 1, none⟩) hbl
    have d5 := (hE0).cell (p := ⟨b, off + 5, none⟩) hbl
    rw [c0] at d0
    rw [c1] at d1
    rw [c5] at d5
    have dl := Nat.lt_of_lt_of_le hbl (hE0).size
    have v0 := hV0.cell 0 (by simp)
    have vl := hV0.lt
    change World.cell? _ _ = some (.slice (some ⟨b, off, none⟩) 6 cap) at v0
    go_enter Tryz.func15, Tryz.ntmps15
    go_wp2_with fail
    try simp only [Act.put, List.setIfInBounds_toArray, List.set_cons_succ, List.set_cons_zero]
    refine Dm.wp_region_ext 12 (Dm.bits 12 0) (Ext.refl W) (by kernel_rfl) (by kernel_rfl) (by kernel_rfl) ?_
    refine Dm.wpE_take (i := 0) (listed' := (Dm.bits 12 1)) (by kernel_rfl) (by kernel_rfl) rfl (fun _ _ _ _ h => h) ?_; apply Exists.intro; refine And.intro (fun x => ?_) ?_
    · go_big_quiet_step ((first | (go_at_call 41; with_reducible exact Calls.quietE (N2.out _ (Ext.trans hE0 (by repeat (first | assumption | exact Ext.refl _ | refine Ext.trans ?_ (ext_grow _ _)))) (hV0.ext (by repeat (first | assumption | exact Ext.refl _ | refine Ext.trans ?_ (ext_grow _ _)))))) | (go_at_call 41; with_reducible exact Calls.quietE (N3.out _ (Ext.trans hE0 (by repeat (first | assumption | exact Ext.refl _ | refine Ext.trans ?_ (ext_grow _ _)))) (hV0.ext (by repeat (first | assumption | exact Ext.refl _ | refine Ext.trans ?_ (ext_grow _ _)))))) | (go_at_call 41; with_reducible exact Calls.quietE (N4.out _ (Ext.trans hE0 (by repeat (first | assumption | exact Ext.refl _ | refine Ext.trans ?_ (ext_grow _ _)))) (hV0.ext (by repeat (first | assumption | exact Ext.refl _ | refine Ext.trans ?_ (ext_grow _ _)))))))); exact wpQuiet_nil rfl
    refine Dm.wpE_take (i := 1) (listed' := (Dm.bits 12 3)) (by kernel_rfl) (by kernel_rfl) rfl (fun _ _ _ _ h => h) ?_; apply Exists.intro; refine And.intro (fun x => ?_) ?_
    · go_big_quiet_step ((first | (go_at_call 41; with_reducible exact Calls.quietE (N2.out _ (Ext.trans hE0 (by repeat (first | assumption | exact Ext.refl _ | refine Ext.trans ?_ (ext_grow _ _)))) (hV0.ext (by repeat (first | assumption | exact Ext.refl _ | refine Ext.trans ?_ (ext_grow _ _)))))) | (go_at_call 41; with_reducible exact Calls.quietE (N3.out _ (Ext.trans hE0 (by repeat (first | assumption | exact Ext.refl _ | refine Ext.trans ?_ (ext_grow _ _)))) (hV0.ext (by repeat (first | assumption | exact Ext.refl _ | refine Ext.trans ?_ (ext_grow _ _)))))) | (go_at_call 41; with_reducible exact Calls.quietE (N4.out _ (Ext.trans hE0 (by repeat (first | assumption | exact Ext.refl _ | refine Ext.trans ?_ (ext_grow _ _)))) (hV0.ext (by repeat (first | assumption | exact Ext.refl _ | refine Ext.trans ?_ (ext_grow _ _)))))))); exact wpQuiet_nil rfl
    refine Dm.wpE_take (i := 2) (listed' := (Dm.bits 12 7)) (by kernel_rfl) (by kernel_rfl) rfl (fun _ _ _ _ h => h) ?_; apply Exists.intro; refine And.intro (fun x => ?_) ?_
    · go_big_quiet_step ((first | (go_at_call 41; with_reducible exact Calls.quietE (N2.out _ (Ext.trans hE0 (by repeat (first | assumption | exact Ext.refl _ | refine Ext.trans ?_ (ext_grow _ _)))) (hV0.ext (by repeat (first | assumption | exact Ext.refl _ | refine Ext.trans ?_ (ext_grow _ _)))))) | (go_at_call 41; with_reducible exact Calls.quietE (N3.out _ (Ext.trans hE0 (by repeat (first | assumption | exact Ext.refl _ | refine Ext.trans ?_ (ext_grow _ _)))) (hV0.ext (by repeat (first | assumption | exact Ext.refl _ | refine Ext.trans ?_ (ext_grow _ _)))))) | (go_at_call 41; with_reducible exact Calls.quietE (N4.out _ (Ext.trans hE0 (by repeat (first | assumption | exact Ext.refl _ | refine Ext.trans ?_ (ext_grow _ _)))) (hV0.ext (by repeat (first | assumption | exact Ext.refl _ | refine Ext.trans ?_ (ext_grow _ _)))))))); exact wpQuiet_nil rfl
    refine Dm.wpE_take (i := 3) (listed' := (Dm.bits 12 15)) (by kernel_rfl) (by kernel_rfl) rfl (fun _ _ _ _ h => h) ?_; apply Exists.intro; refine And.intro (fun x => ?_) ?_
    · go_big_quiet_step ((first | (go_at_call 41; with_reducible exact Calls.quietE (N2.out _ (Ext.trans hE0 (by repeat (first | assumption | exact Ext.refl _ | refine Ext.trans ?_ (ext_grow _ _)))) (hV0.ext (by repeat (first | assumption | exact Ext.refl _ | refine Ext.trans ?_ (ext_grow _ _)))))) | (go_at_call 41; with_reducible exact Calls.quietE (N3.out _ (Ext.trans hE0 (by repeat (first | assumption | exact Ext.refl _ | refine Ext.trans ?_ (ext_grow _ _)))) (hV0.ext (by repeat (first | assumption | exact Ext.refl _ | refine Ext.trans ?_ (ext_grow _ _)))))) | (go_at_call 41; with_reducible exact Calls.quietE (N4.out _ (Ext.trans hE0 (by repeat (first | assumption | exact Ext.refl _ | refine Ext.trans ?_ (ext_grow _ _)))) (hV0.ext (by repeat (first | assumption | exact Ext.refl _ | refine Ext.trans ?_ (ext_grow _ _)))))))); exact wpQuiet_nil rfl
    refine Dm.wpE_take (i := 4) (listed' := (Dm.bits 12 31)) (by kernel_rfl) (by kernel_rfl) rfl (fun _ _ _ _ h => h) ?_; apply Exists.intro; refine And.intro (fun x => ?_) ?_
    · go_big_quiet_step ((first | (go_at_call 41; with_reducible exact Calls.quietE (N2.out _ (Ext.trans hE0 (by repeat (first | assumption | exact Ext.refl _ | refine Ext.trans ?_ (ext_grow _ _)))) (hV0.ext (by repeat (first | assumption | exact Ext.refl _ | refine Ext.trans ?_ (ext_grow _ _)))))) | (go_at_call 41; with_reducible exact Calls.quietE (N3.out _ (Ext.trans hE0 (by repeat (first | assumption | exact Ext.refl _ | refine Ext.trans ?_ (ext_grow _ _)))) (hV0.ext (by repeat (first | assumption | exact Ext.refl _ | refine Ext.trans ?_ (ext_grow _ _)))))) | (go_at_call 41; with_reducible exact Calls.quietE (N4.out _ (Ext.trans hE0 (by repeat (first | assumption | exact Ext.refl _ | refine Ext.trans ?_ (ext_grow _ _)))) (hV0.ext (by repeat (first | assumption | exact Ext.refl _ | refine Ext.trans ?_ (ext_grow _ _)))))))); exact wpQuiet_nil rfl
    refine Dm.wpE_take (i := 5) (listed' := (Dm.bits 12 63)) (by kernel_rfl) (by kernel_rfl) rfl (fun _ _ _ _ h => h) ?_; apply Exists.intro; refine And.intro (fun x => ?_) ?_
    · go_big_quiet_step ((first | (go_at_call 41; with_reducible exact Calls.quietE (N2.out _ (Ext.trans hE0 (by repeat (first | assumption | exact Ext.refl _ | refine Ext.trans ?_ (ext_grow _ _)))) (hV0.ext (by repeat (first | assumption | exact Ext.refl _ | refine Ext.trans ?_ (ext_grow _ _)))))) | (go_at_call 41; with_reducible exact Calls.quietE (N3.out _ (Ext.trans hE0 (by repeat (first | assumption | exact Ext.refl _ | refine Ext.trans ?_ (ext_grow _ _)))) (hV0.ext (by repeat (first | assumption | exact Ext.refl _ | refine Ext.trans ?_ (ext_grow _ _)))))) | (go_at_call 41; with_reducible exact Calls.quietE (N4.out _ (Ext.trans hE0 (by repeat (first | assumption | exact Ext.refl _ | refine Ext.trans ?_ (ext_grow _ _)))) (hV0.ext (by repeat (first | assumption | exact Ext.refl _ | refine Ext.trans ?_ (ext_grow _ _)))))))); exact wpQuiet_nil rfl
    refine Dm.wpE_take (i := 6) (listed' := (Dm.bits 12 127)) (by kernel_rfl) (by kernel_rfl) rfl (fun _ _ _ _ h => h) ?_; apply Exists.intro; refine And.intro (fun x => ?_) ?_
    · go_big_quiet_step ((first | (go_at_call 41; with_reducible exact Calls.quietE (N2.out _ (Ext.trans hE0 (by repeat (first | assumption | exact Ext.refl _ | refine Ext.trans ?_ (ext_grow _ _)))) (hV0.ext (by repeat (first | assumption | exact Ext.refl _ | refine Ext.trans ?_ (ext_grow _ _)))))) | (go_at_call 41; with_reducible exact Calls.quietE (N3.out _ (Ext.trans hE0 (by repeat (first | assumption | exact Ext.refl _ | refine Ext.trans ?_ (ext_grow _ _)))) (hV0.ext (by repeat (first | assumption | exact Ext.refl _ | refine Ext.trans ?_ (ext_grow _ _)))))) | (go_at_call 41; with_reducible exact Calls.quietE (N4.out _ (Ext.trans hE0 (by repeat (first | assumption | exact Ext.refl _ | refine Ext.trans ?_ (ext_grow _ _)))) (hV0.ext (by repeat (first | assumption | exact Ext.refl _ | refine Ext.trans ?_ (ext_grow _ _)))))))); exact wpQuiet_nil rfl
    refine Dm.wpE_take (i := 7) (listed' := (Dm.bits 12 255)) (by kernel_rfl) (by kernel_rfl) rfl (fun _ _ _ _ h => h) ?_; apply Exists.intro; refine And.intro (fun x => ?_) ?_
    · go_big_quiet_step ((first | (go_at_call 41; with_reducible exact Calls.quietE (N2.out _ (Ext.trans hE0 (by repeat (first | assumption | exact Ext.refl _ | refine Ext.trans ?_ (ext_grow _ _)))) (hV0.ext (by repeat (first | assumption | exact Ext.refl _ | refine Ext.trans ?_ (ext_grow _ _)))))) | (go_at_call 41; with_reducible exact Calls.quietE (N3.out _ (Ext.trans hE0 (by repeat (first | assumption | exact Ext.refl _ | refine Ext.trans ?_ (ext_grow _ _)))) (hV0.ext (by repeat (first | assumption | exact Ext.refl _ | refine Ext.trans ?_ (ext_grow _ _)))))) | (go_at_call 41; with_reducible exact Calls.quietE (N4.out _ (Ext.trans hE0 (by repeat (first | assumption | exact Ext.refl _ | refine Ext.trans ?_ (ext_grow _ _)))) (hV0.ext (by repeat (first | assumption | exact Ext.refl _ | refine Ext.trans ?_ (ext_grow _ _)))))))); exact wpQuiet_nil rfl
    refine Dm.wpE_take (i := 8) (listed' := (Dm.bits 12 511)) (by kernel_rfl) (by kernel_rfl) rfl (fun _ _ _ _ h => h) ?_; apply Exists.intro; refine And.intro (fun x => ?_) ?_
    · go_big_quiet_step ((first | (go_at_call 41; with_reducible exact Calls.quietE (N2.out _ (Ext.trans hE0 (by repeat (first | assumption | exact Ext.refl _ | refine Ext.trans ?_ (ext_grow _ _)))) (hV0.ext (by repeat (first | assumption | exact Ext.refl _ | refine Ext.trans ?_ (ext_grow _ _)))))) | (go_at_call 41; with_reducible exact Calls.quietE (N3.out _ (Ext.trans hE0 (by repeat (first | assumption | exact Ext.refl _ | refine Ext.trans ?_ (ext_grow _ _)))) (hV0.ext (by repeat (first | assumption | exact Ext.refl _ | refine Ext.trans ?_ (ext_grow _ _)))))) | (go_at_call 41; with_reducible exact Calls.quietE (N4.out _ (Ext.trans hE0 (by repeat (first | assumption | exact Ext.refl _ | refine Ext.trans ?_ (ext_grow _ _)))) (hV0.ext (by repeat (first | assumption | exact Ext.refl _ | refine Ext.trans ?_ (ext_grow _ _)))))))); exact wpQuiet_nil rfl
    refine Dm.wpE_take (i := 9) (listed' := (Dm.bits 12 1023)) (by kernel_rfl) (by kernel_rfl) rfl (fun _ _ _ _ h => h) ?_; apply Exists.intro; refine And.intro (fun x => ?_) ?_
    · go_big_quiet_step ((first | (go_at_call 41; with_reducible exact Calls.quietE (N2.out _ (Ext.trans hE0 (by repeat (first | assumption | exact Ext.refl _ | refine Ext.trans ?_ (ext_grow _ _)))) (hV0.ext (by repeat (first | assumption | exact Ext.refl _ | refine Ext.trans ?_ (ext_grow _ _)))))) | (go_at_call 41; with_reducible exact Calls.quietE (N3.out _ (Ext.trans hE0 (by repeat (first | assumption | exact Ext.refl _ | refine Ext.trans ?_ (ext_grow _ _)))) (hV0.ext (by repeat (first | assumption | exact Ext.refl _ | refine Ext.trans ?_ (ext_grow _ _)))))) | (go_at_call 41; with_reducible exact Calls.quietE (N4.out _ (Ext.trans hE0 (by repeat (first | assumption | exact Ext.refl _ | refine Ext.trans ?_ (ext_grow _ _)))) (hV0.ext (by repeat (first | assumption | exact Ext.refl _ | refine Ext.trans ?_ (ext_grow _ _)))))))); exact wpQuiet_nil rfl
    refine Dm.wpE_one (i := 10) (listed' := (Dm.bits 12 2047)) (by kernel_rfl) (by kernel_rfl) rfl (Ext.refl W) (fun w1a hx1a => ?_)
    have hX1a := Ext.trans (Ext.refl W) hx1a
    have hz : CB w1a.heap.size [.string ⟨#[]⟩, .int .u64 0, .int .u64 0, .int .u64 0, .int .u64 0, .int .i64 0, .int .i64 0, .int .i64 0, .slice none 0 0] _ := CB.new w1a #[.string ⟨#[]⟩, .int .u64 0, .int .u64 0, .int .u64 0, .int .u64 0, .int .i64 0, .int .i64 0, .int .i64 0, .slice none 0 0] 27
    have hzl := (hX1a).size
    go_wp2_with fail
    have hs1 := (Ext.refl w1a).alloc (.cells #[.string ⟨#[]⟩, .int .u64 0, .int .u64 0, .int .u64 0, .int .u64 0, .int .i64 0, .int .i64 0, .int .i64 0, .slice none 0 0] 27)
    have hX1b := Ext.trans hX1a hs1
    generalize w1a.alloc (.cells #[.string ⟨#[]⟩, .int .u64 0, .int .u64 0, .int .u64 0, .int .u64 0, .int .i64 0, .int .i64 0, .int .i64 0, .slice none 0 0] 27) = w1b at *
    generalize w1a.heap.size = b2 at *
    try simp only [Exit.then, Act.put]
    refine Dm.wpE_one (i := 11) (listed' := (Dm.bits 12 4095)) (by kernel_rfl) (by kernel_rfl) rfl hX1b (fun w2a hx2a => ?_)
    have hX2a := Ext.trans hX1b hx2a
    replace hz := hz.ext hx2a
    obtain ⟨xl, x0, x1, x2, x3, x4, x5, x6, x7, x8, xf0, xf1, xf2, xf3, xf4, xf5, xf6, xf7, xf8⟩ := hz.cells9
    have hY : CB b2 [.string s0, .int .u64 0, .int .u64 0, .int .u64 0, .int .u64 0, .int .i64 za, .int .i64 zb, .int .i64 zc, .slice none 0 0] _ := hz.put9 (.string s0) (.int .u64 0) (.int .u64 0) (.int .u64 0) (.int .u64 0) (.int .i64 za) (.int .i64 zb) (.int .i64 zc) (.slice none 0 0)
    have hX2b : Ext W _ := Ext.cput9 hX2a (b := b2) (by omega) (.string s0) (.int .u64 0) (.int .u64 0) (.int .u64 0) (.int .u64 0) (.int .i64 za) (.int .i64 zb) (.int .i64 zc) (.slice none 0 0)
    go_wp2_with fail
    clear xl x0 xf0 x1 xf1 x2 xf2 x3 xf3 x4 xf4 x5 xf5 x6 xf6 x7 xf7 x8 xf8
    clear hz
    generalize ((((((((w2a.setCell ⟨b2, 0, none⟩ (.string s0)).setCell ⟨b2, 1, none⟩ (.int .u64 0)).setCell ⟨b2, 2, none⟩ (.int .u64 0)).setCell ⟨b2, 3, none⟩ (.int .u64 0)).setCell ⟨b2, 4, none⟩ (.int .u64 0)).setCell ⟨b2, 5, none⟩ (.int .i64 za)).setCell ⟨b2, 6, none⟩ (.int .i64 zb)).setCell ⟨b2, 7, none⟩ (.int .i64 zc)).setCell ⟨b2, 8, none⟩ (.slice none 0 0) = w2b at *
    try simp only [Exit.then, Act.put]
    refine Dm.wpE_done (by kernel_rfl) hX2b (fun w3a hx3a => ?_)
    have hX3a := Ext.trans hX2b hx3a
    replace hY := hY.ext hx3a
    clear d0 d1 d5 dl
    clear v0 vl
    have hE1 := hE0.trans hX3a
    have hV1 := hV0.ext hX3a
    have hB1 := hB0.ext hX3a
    have hb2 : w.heap.size + 1 < b2 := by have := hB0.lt; omega
    generalize w3a = w1 at *
    clear hV0 hB0 hE0 N2 N3 N4 hW0
    have d0 := (hE1).cell (p := ⟨b, off, none⟩) hbl
    have d1 := (hE1).cell (p := ⟨b, off + 1, none⟩) hbl
    have d5 := (hE1).cell (p := ⟨b, off + 5, none⟩) hbl
    rw [c0] at d0
    rw [c1] at d1
    rw [c5] at d5
    have dl := Nat.lt_of_lt_of_le hbl (hE1).size
    have v0 := hV1.cell 0 (by simp)
    have vl := hV1.lt
    change World.cell? _ _ = some (.slice (some ⟨b, off, none⟩) 6 cap) at v0
    go_wp2_with fail
    refine (CV.out _ hE1).mono ?_; rintro e w2 ⟨rfl, h2⟩
    clear d0 d1 d5 dl
    clear v0 vl
    have hE2 := hE1.trans h2
    have hV2 := hV1.ext h2
    have hB2 := hB1.ext h2
    replace hY := hY.ext h2
    clear hE1 hV1 hB1 h2
    have hY3 : CB b2 [.string s0, .int .u64 (D 0 : Nat), .int .u64 (D 1 : Nat), .int .u64 (D 2 : Nat), .int .u64 (D 3 : Nat), .int .i64 za, .int .i64 zb, .int .i64 zc, .slice none 0 0] _ := ((((hY.set 1 (.int .u64 (D 0 : Nat)) (by simp)).set 2 (.int .u64 (D 1 : Nat)) (by simp)).set 3 (.int .u64 (D 2 : Nat)) (by simp)).set 4 (.int .u64 (D 3 : Nat)) (by simp))
    have hE3 : Ext w _ := ((((hE2.setCell (p := ⟨b2, 1, none⟩) (show w.heap.size ≤ b2 by omega) (.int .u64 (D 0 : Nat))).setCell (p := ⟨b2, 2, none⟩) (show w.heap.size ≤ b2 by omega) (.int .u64 (D 1 : Nat))).setCell (p := ⟨b2, 3, none⟩) (show w.heap.size ≤ b2 by omega) (.int .u64 (D 2 : Nat))).setCell (p := ⟨b2, 4, none⟩) (show w.heap.size ≤ b2 by omega) (.int .u64 (D 3 : Nat)))
    have hV3 := ((((hV2.far (i := 1) (show b2 ≠ w.heap.size by omega) (.int .u64 (D 0 : Nat))).far (i := 2) (show b2 ≠ w.heap.size by omega) (.int .u64 (D 1 : Nat))).far (i := 3) (show b2 ≠ w.heap.size by omega) (.int .u64 (D 2 : Nat))).far (i := 4) (show b2 ≠ w.heap.size by omega) (.int .u64 (D 3 : Nat)))
    have hB3 := ((((hB2.far (i := 1) (show b2 ≠ w.heap.size + 1 by omega) (.int .u64 (D 0 : Nat))).far (i := 2) (show b2 ≠ w.heap.size + 1 by omega) (.int .u64 (D 1 : Nat))).far (i := 3) (show b2 ≠ w.heap.size + 1 by omega) (.int .u64 (D 2 : Nat))).far (i := 4) (show b2 ≠ w.heap.size + 1 by omega) (.int .u64 (D 3 : Nat)))
    have hbb : b2 ≠ b := by omega
    have hbw : b2 ≠ w.heap.size := by omega
    obtain ⟨xl, x0, x1, x2, x3, x4, x5, x6, x7, x8, xf0, xf1, xf2, xf3, xf4, xf5, xf6, xf7, xf8⟩ := hY.cells9
    have d0 := (hE2).cell (p := ⟨b, off, none⟩) hbl
    have d1 := (hE2).cell (p := ⟨b, off + 1, none⟩) hbl
    have d5 := (hE2).cell (p := ⟨b, off + 5, none⟩) hbl
    rw [c0] at d0
    rw [c1] at d1
    rw [c5] at d5
    have dl := Nat.lt_of_lt_of_le hbl (hE2).size
    have v0 := hV2.cell 0 (by simp)
    have vl := hV2.lt
    change World.cell? _ _ = some (.slice (some ⟨b, off, none⟩) 6 cap) at v0
    have e5 := hE3.cell (p := ⟨b, off + 5, none⟩) hbl
    rw [c5] at e5
    have v1 := hV3.cell 0 (by simp)
    change World.cell? _ _ = some (.slice (some ⟨b, off, none⟩) 6 cap) at v1
    go_wp2_with fail
    clear xl x0 xf0 x1 xf1 x2 xf2 x3 xf3 x4 xf4 x5 xf5 x6 xf6 x7 xf7 x8 xf8
    clear d0 d1 d5 dl
    clear v0 vl e5 v1 hY hE2 hV2 hB2
    generalize (((w2.setCell ⟨b2, 1, none⟩ (.int .u64 (D 0 : Nat))).setCell ⟨b2, 2, none⟩ (.int .u64 (D 1 : Nat))).setCell ⟨b2, 3, none⟩ (.int .u64 (D 2 : Nat))).setCell ⟨b2, 4, none⟩ (.int .u64 (D 3 : Nat)) = w3 at *
    refine (CS.out _ hE3).mono ?_; rintro e w4 ⟨v, R, bb, rfl, hx6, hpe, hf6, hl6, hown, h4⟩
    obtain ⟨qv, capv, rfl, _, _⟩ := hx6.shape
    injection hpe with ea eb
    subst ea eb
    have hlt3 : w.heap.size + 1 < w3.heap.size ∧ b2 < w3.heap.size := ⟨hB3.lt, hY3.lt⟩
    have hE4 := hE3.trans h4
    have hV4 := hV3.ext h4
    have hB4 := hB3.ext h4
    have hY4 := hY3.ext h4
    clear hE3 hV3 hB3 hY3 h4
    have hY5 : CB b2 [.string s0, .int .u64 (D 0 : Nat), .int .u64 (D 1 : Nat), .int .u64 (D 2 : Nat), .int .u64 (D 3 : Nat), .int .i64 za, .int .i64 zb, .int .i64 zc, .slice qv R.length capv] _ := hY4.set 8 (.slice qv R.length capv) (by simp)
    have hE5 : Ext w _ := hE4.setCell (p := ⟨b2, 8, none⟩) (show w.heap.size ≤ b2 by omega) (.slice qv R.length capv)
    have hV5 := hV4.far (i := 8) hbw (.slice qv R.length capv)
    have hB5 := hB4.far (i := 8) (show b2 ≠ w.heap.size + 1 by omega) (.slice qv R.length capv)
    have hT5 := hx6.set hown hlt3.2 (i := 8) (.slice qv R.length capv)
    have CK5 := Lib.hid (fun U (h : Ext (w4.setCell ⟨b2, 8, none⟩ (.slice qv R.length capv)) U) => CK.out (za, zb, zc) (.slice qv R.length capv) R U (hE5.trans h) hl6 hf6 (hT5.ext h))
    obtain ⟨xl, x0, x1, x2, x3, x4, x5, x6, x7, x8, xf0, xf1, xf2, xf3, xf4, xf5, xf6, xf7, xf8⟩ := hY4.cells9
    have z5 := hY5.cells9
    by_cases hk : chkX (s0, d, (za, zb, zc), R.map rowT) = 0
    · have hG1 := hG.out
      rw [hk] at CK5
      have CT5 := Lib.hid (fun U (h : Ext (w4.setCell ⟨b2, 8, none⟩ (.slice qv R.length capv)) U) => CT.out (za, zb, zc) (.slice qv R.length capv) R U (hE5.trans h) hl6 hf6 (hT5.ext h))
      have hln := hlen.out (za, zb, zc) (R.map rowT) hk
      have CL5 := CL.out ⟨(textX (s0, d, (za, zb, zc), R.map rowT)).toArray⟩ (by show (textX (s0, d, (za, zb, zc), R.map rowT)).toArray.size ≤ 1400; rw [List.size_toArray]; exact hln)
      have htx : (⟨(textX (s0, d, (za, zb, zc), R.map rowT)).toArray⟩ : ByteArray).data.toList = textX (s0, d, (za, zb, zc), R.map rowT) := rfl
      rw [htx] at CL5
      rw [hk] at hG1
      simp only [true_and] at hG1
      clear htx hln hk
      generalize splitC 32 (textX (s0, d, (za, zb, zc), R.map rowT)) = sp at *
      generalize (⟨(textX (s0, d, (za, zb, zc), R.map rowT)).toArray⟩ : ByteArray) = tx at *
      unfold spVal at CK5 CT5
      try rw [hD.out] at CK5 CT5
      replace CK5 := Lib.hid CK5
      replace CT5 := Lib.hid CT5
      replace CL5 := Lib.hid CL5
      replace hG1 := Lib.hid hG1
      generalize hW5 : w4.setCell ⟨b2, 8, none⟩ (.slice qv R.length capv) = w5 at *
      obtain ⟨yl, y0, y1, y2, y3, y4, y5, y6, y7, y8, _, _, _, _, _, _, _, _, _⟩ := hY5.cells9
      clear z5
      have v0 := hV5.cell 0 (by simp)
      have vl := hV5.lt
      change World.cell? _ _ = some (.slice (some ⟨b, off, none⟩) 6 cap) at v0
      go_wp2_with fail
      clear hW5
      clear xl x0 xf0 x1 xf1 x2 xf2 x3 xf3 x4 xf4 x5 xf5 x6 xf6 x7 xf7 x8 xf8
      clear hY4 hE4 hV4 hB4 hx6
      try simp only [Act.put, List.setIfInBounds_toArray, List.set_cons_succ, List.set_cons_zero]
      refine Dm.wp_region_ext 11 (Dm.bits 11 0) (Ext.refl w5) (by kernel_rfl) (by kernel_rfl) (by kernel_rfl) ?_
      refine Dm.wpE_take (i := 0) (listed' := (Dm.bits 11 1)) (by kernel_rfl) (by kernel_rfl) rfl (fun _ _ _ _ h => h) ?_; apply Exists.intro; refine And.intro (fun x => ?_) ?_
      · go_big_quiet_step ((first | (go_at_call 19; with_reducible exact Calls.quietE (CK5.out.out _ (by repeat (first | assumption | exact Ext.refl _ | refine Ext.trans ?_ (ext_grow _ _))))) | (go_at_call 24; with_reducible exact Calls.quietE (CT5.out.out _ (by repeat (first | assumption | exact Ext.refl _ | refine Ext.trans ?_ (ext_grow _ _))))))); exact wpQuiet_nil rfl
      refine Dm.wpE_take (i := 1) (listed' := (Dm.bits 11 3)) (by kernel_rfl) (by kernel_rfl) rfl (fun _ _ _ _ h => h) ?_; apply Exists.intro; refine And.intro (fun x => ?_) ?_
      · go_big_quiet_step ((first | (go_at_call 19; with_reducible exact Calls.quietE (CK5.out.out _ (by repeat (first | assumption | exact Ext.refl _ | refine Ext.trans ?_ (ext_grow _ _))))) | (go_at_call 24; with_reducible exact Calls.quietE (CT5.out.out _ (by repeat (first | assumption | exact Ext.refl _ | refine Ext.trans ?_ (ext_grow _ _))))))); exact wpQuiet_nil rfl
      refine Dm.wpE_take (i := 2) (listed' := (Dm.bits 11 7)) (by kernel_rfl) (by kernel_rfl) rfl (fun _ _ _ _ h => h) ?_; apply Exists.intro; refine And.intro (fun x => ?_) ?_
      · go_big_quiet_step ((first | (go_at_call 19; with_reducible exact Calls.quietE (CK5.out.out _ (by repeat (first | assumption | exact Ext.refl _ | refine Ext.trans ?_ (ext_grow _ _))))) | (go_at_call 24; with_reducible exact Calls.quietE (CT5.out.out _ (by repeat (first | assumption | exact Ext.refl _ | refine Ext.trans ?_ (ext_grow _ _))))))); exact wpQuiet_nil rfl
      refine Dm.wpE_take (i := 3) (listed' := (Dm.bits 11 15)) (by kernel_rfl) (by kernel_rfl) rfl (fun _ _ _ _ h => h) ?_; apply Exists.intro; refine And.intro (fun x => ?_) ?_
      · go_big_quiet_step ((first | (go_at_call 19; with_reducible exact Calls.quietE (CK5.out.out _ (by repeat (first | assumption | exact Ext.refl _ | refine Ext.trans ?_ (ext_grow _ _))))) | (go_at_call 24; with_reducible exact Calls.quietE (CT5.out.out _ (by repeat (first | assumption | exact Ext.refl _ | refine Ext.trans ?_ (ext_grow _ _))))))); exact wpQuiet_nil rfl
      refine Dm.wpE_take (i := 4) (listed' := (Dm.bits 11 31)) (by kernel_rfl) (by kernel_rfl) rfl (fun _ _ _ _ h => h) ?_; apply Exists.intro; refine And.intro (fun x => ?_) ?_
      · go_big_quiet_step ((first | (go_at_call 19; with_reducible exact Calls.quietE (CK5.out.out _ (by repeat (first | assumption | exact Ext.refl _ | refine Ext.trans ?_ (ext_grow _ _))))) | (go_at_call 24; with_reducible exact Calls.quietE (CT5.out.out _ (by repeat (first | assumption | exact Ext.refl _ | refine Ext.trans ?_ (ext_grow _ _))))))); exact wpQuiet_nil rfl
      refine Dm.wpE_take (i := 5) (listed' := (Dm.bits 11 63)) (by kernel_rfl) (by kernel_rfl) rfl (fun _ _ _ _ h => h) ?_; apply Exists.intro; refine And.intro (fun x => ?_) ?_
      · go_big_quiet_step ((first | (go_at_call 19; with_reducible exact Calls.quietE (CK5.out.out _ (by repeat (first | assumption | exact Ext.refl _ | refine Ext.trans ?_ (ext_grow _ _))))) | (go_at_call 24; with_reducible exact Calls.quietE (CT5.out.out _ (by repeat (first | assumption | exact Ext.refl _ | refine Ext.trans ?_ (ext_grow _ _))))))); exact wpQuiet_nil rfl
      refine Dm.wpE_take (i := 7) (listed' := (Dm.bits 11 191)) (by kernel_rfl) (by kernel_rfl) rfl (fun _ _ _ _ h => h) ?_; apply Exists.intro; refine And.intro (fun x => ?_) ?_
      · go_big_quiet_step ((first | (go_at_call 19; with_reducible exact Calls.quietE (CK5.out.out _ (by repeat (first | assumption | exact Ext.refl _ | refine Ext.trans ?_ (ext_grow _ _))))) | (go_at_call 24; with_reducible exact Calls.quietE (CT5.out.out _ (by repeat (first | assumption | exact Ext.refl _ | refine Ext.trans ?_ (ext_grow _ _))))))); exact wpQuiet_nil rfl
      refine Dm.wpE_one (i := 6) (listed' := (Dm.bits 11 255)) (by kernel_rfl) (by kernel_rfl) rfl (Ext.refl w5) (fun w1a hx1a => ?_)
      have hX1a := Ext.trans (Ext.refl w5) hx1a
      go_wp2_with (go_at_call 46; go_must (refine (CL5.out w1a (hE5.trans hX1a)).mono ?_; rintro e w1b ⟨ss, rfl, hss, hbs, hsl, hs1⟩))
      have hX1b := Ext.trans hX1a hs1
      try simp only [Exit.then, Act.put, List.setIfInBounds_toArray, List.set_cons_succ, List.set_cons_zero]
      refine Dm.wpE_one (i := 8) (listed' := (Dm.bits 11 511)) (by kernel_rfl) (by kernel_rfl) rfl hX1b (fun w2a hx2a => ?_)
      have hX2a := Ext.trans hX1b hx2a
      replace hss := hss.ext hx2a
      go_wp2_with (go_at_call 45; go_must (refine (CE.out ss _ w2a (hE5.trans hX2a) (by omega) hss).mono ?_; rintro e w2b ⟨rfl, hs2⟩))
      have hX2b := Ext.trans hX2a hs2
      try simp only [Exit.then, Act.put, List.setIfInBounds_toArray, List.set_cons_succ, List.set_cons_zero]
      refine Dm.wpE_take (i := 9) (listed' := (Dm.bits 11 1023)) (by kernel_rfl) (by kernel_rfl) rfl (fun _ _ _ _ h => h) ?_; apply Exists.intro; refine And.intro (fun x => ?_) ?_
      · go_big_quiet_step ((first | (go_at_call 19; with_reducible exact Calls.quietE (CK5.out.out _ (by repeat (first | assumption | exact Ext.refl _ | refine Ext.trans ?_ (ext_grow _ _))))) | (go_at_call 24; with_reducible exact Calls.quietE (CT5.out.out _ (by repeat (first | assumption | exact Ext.refl _ | refine Ext.trans ?_ (ext_grow _ _))))))); exact wpQuiet_nil rfl
      refine Dm.wpE_take (i := 10) (listed' := (Dm.bits 11 2047)) (by kernel_rfl) (by kernel_rfl) rfl (fun _ _ _ _ h => h) ?_; apply Exists.intro; refine And.intro (fun x => ?_) ?_
      · go_big_quiet_step ((first | (go_at_call 19; with_reducible exact Calls.quietE (CK5.out.out _ (by repeat (first | assumption | exact Ext.refl _ | refine Ext.trans ?_ (ext_grow _ _))))) | (go_at_call 24; with_reducible exact Calls.quietE (CT5.out.out _ (by repeat (first | assumption | exact Ext.refl _ | refine Ext.trans ?_ (ext_grow _ _))))))); exact wpQuiet_nil rfl
      refine Dm.wpE_done (by kernel_rfl) hX2b (fun w3a hx3a => ?_)
      have hX3a := Ext.trans hX2b hx3a
      replace hE5 := hE5.trans hX3a
      have hB6 := hB5.ext hX3a
      have hE6 := hE5
      have hT6 := hT5.ext hX3a
      have hY6 := hY5.ext hX3a
      clear hE5 hB5 hT5 hY5 yl y0 y1 y2 y3 y4 y5 y6 y7 y8 v0 vl
      generalize w3a = w6 at *
      by_cases heq : ss = ws
      · have hG2 : G = ((s0, d, (za, zb, zc), R.map rowT), true) := by
          rw [hG1.out, if_pos (by rw [← hbs, heq])]
        subst hG2
        have hde : decide (ss = ws) = true := decide_eq_true heq
        clear hbs hG hG1
        generalize decide (ss = ws) = bq at *
        subst hde
        obtain ⟨xl, x0, x1, x2, x3, x4, x5, x6, x7, x8, xf0, xf1, xf2, xf3, xf4, xf5, xf6, xf7, xf8⟩ := hY6.cells9
        obtain ⟨rl, r0, r1, r2, r3, r4, r5, r6, r7, r8, rf0, rf1, rf2, rf3, rf4, rf5, rf6, rf7, rf8⟩ := hB6.cells9
        go_wp2
        clear xl x0 xf0 x1 xf1 x2 xf2 x3 xf3 x4 xf4 x5 xf5 x6 xf6 x7 xf7 x8 xf8
        clear rl r0 rf0 r1 rf1 r2 rf2 r3 rf3 r4 rf4 r5 rf5 r6 rf6 r7 rf7 r8 rf8
        have hz := hB6.put9 (.string s0) (.int .u64 (D 0 : Nat)) (.int .u64 (D 1 : Nat)) (.int .u64 (D 2 : Nat)) (.int .u64 (D 3 : Nat)) (.int .i64 za) (.int .i64 zb) (.int .i64 zc) (.slice qv R.length capv)
        obtain ⟨_, k0, k1, k2, k3, k4, k5, k6, k7, k8, _, _, _, _, _, _, _, _, _⟩ := hz.cells9
        refine bodyPost_ret (v := .tuple #[.agg #[.string s0, .int .u64 (D 0 : Nat), .int .u64 (D 1 : Nat), .int .u64 (D 2 : Nat), .int .u64 (D 3 : Nat), .int .i64 za, .int .i64 zb, .int .i64 zc, .slice qv R.length capv], .bool true]) (by simp [results, Tryz.results15, go_sem, k0, k1, k2, k3, k4, k5, k6, k7, k8]) rfl ?_
        refine ⟨⟨_, R, by rw [hD.out]; rfl, ?_, hf6, hl6, rfl, hok.out⟩, Ext.cput9 hE6 (b := w.heap.size + 1) (by omega) _ _ _ _ _ _ _ _ _⟩
        exact ((((((((hT6.set hown hlt3.1 _).set hown hlt3.1 _).set hown hlt3.1 _).set hown hlt3.1 _).set hown hlt3.1 _).set hown hlt3.1 _).set hown hlt3.1 _).set hown hlt3.1 _).set hown hlt3.1 _
      · have hG2 : G = (noSp, false) := by
          rw [hG1.out, if_neg (fun h => heq (hinj.out ss (by rw [hbs, h])))]
        subst hG2
        have hde : decide (ss = ws) = false := decide_eq_false heq
        clear hbs hG hG1
        generalize decide (ss = ws) = bq at *
        subst hde
        obtain ⟨rl, r0, r1, r2, r3, r4, r5, r6, r7, r8, rf0, rf1, rf2, rf3, rf4, rf5, rf6, rf7, rf8⟩ := hB6.cells9
        go_wp2
        clear rl r0 rf0 r1 rf1 r2 rf2 r3 rf3 r4 rf4 r5 rf5 r6 rf6 r7 rf7 r8 rf8
        have hz := hB6.put9 (.string ⟨#[]⟩) (.int .u64 0) (.int .u64 0) (.int .u64 0) (.int .u64 0) (.int .i64 0) (.int .i64 0) (.int .i64 0) (.slice none 0 0)
        obtain ⟨_, k0, k1, k2, k3, k4, k5, k6, k7, k8, _, _, _, _, _, _, _, _, _⟩ := hz.cells9
        refine bodyPost_ret (v := .tuple #[.agg #[.string ⟨#[]⟩, .int .u64 0, .int .u64 0, .int .u64 0, .int .u64 0, .int .i64 0, .int .i64 0, .int .i64 0, .slice none 0 0], .bool false]) (by simp [results, Tryz.results15, go_sem, k0, k1, k2, k3, k4, k5, k6, k7, k8]) rfl ?_
        exact ⟨GotP.no _, Ext.cput9 hE6 (b := w.heap.size + 1) (by omega) _ _ _ _ _ _ _ _ _⟩
    · obtain rfl : G = (noSp, false) := by rw [hG.out, if_neg (fun h => hk h.1)]
      generalize chkX (s0, d, (za, zb, zc), R.map rowT) = K at *
      have hKb : ((K : Int) != 0) = true := by simp; omega
      unfold spVal at CK5
      try rw [hD.out] at CK5
      replace CK5 := Lib.hid CK5
      clear hG
      generalize hW5 : w4.setCell ⟨b2, 8, none⟩ (.slice qv R.length capv) = w5 at *
      obtain ⟨yl, y0, y1, y2, y3, y4, y5, y6, y7, y8, _, _, _, _, _, _, _, _, _⟩ := hY5.cells9
      clear z5
      have v0 := hV5.cell 0 (by simp)
      have vl := hV5.lt
      change World.cell? _ _ = some (.slice (some ⟨b, off, none⟩) 6 cap) at v0
      go_wp2_with fail
      clear hW5
      clear xl x0 xf0 x1 xf1 x2 xf2 x3 xf3 x4 xf4 x5 xf5 x6 xf6 x7 xf7 x8 xf8
      clear hY4 hE4 hV4 hB4 hx6
      try simp only [Act.put, List.setIfInBounds_toArray, List.set_cons_succ, List.set_cons_zero]
      refine Dm.wp_region_ext 11 (Dm.bits 11 0) (Ext.refl w5) (by kernel_rfl) (by kernel_rfl) (by kernel_rfl) ?_
      refine Dm.wpE_take (i := 0) (listed' := (Dm.bits 11 1)) (by kernel_rfl) (by kernel_rfl) rfl (fun _ _ _ _ h => h) ?_; apply Exists.intro; refine And.intro (fun x => ?_) ?_
      · go_big_quiet_step ((first | (go_at_call 19; with_reducible exact Calls.quietE (CK5.out.out _ (by repeat (first | assumption | exact Ext.refl _ | refine Ext.trans ?_ (ext_grow _ _))))))); exact wpQuiet_nil rfl
      refine Dm.wpE_take (i := 1) (listed' := (Dm.bits 11 3)) (by kernel_rfl) (by kernel_rfl) rfl (fun _ _ _ _ h => h) ?_; apply Exists.intro; refine And.intro (fun x => ?_) ?_
      · go_big_quiet_step ((first | (go_at_call 19; with_reducible exact Calls.quietE (CK5.out.out _ (by repeat (first | assumption | exact Ext.refl _ | refine Ext.trans ?_ (ext_grow _ _))))))); exact wpQuiet_nil rfl
      refine Dm.wpE_take (i := 2) (listed' := (Dm.bits 11 7)) (by kernel_rfl) (by kernel_rfl) rfl (fun _ _ _ _ h => h) ?_; apply Exists.intro; refine And.intro (fun x => ?_) ?_
      · go_big_quiet_step ((first | (go_at_call 19; with_reducible exact Calls.quietE (CK5.out.out _ (by repeat (first | assumption | exact Ext.refl _ | refine Ext.trans ?_ (ext_grow _ _))))))); exact wpQuiet_nil rfl
      refine Dm.wpE_take (i := 3) (listed' := (Dm.bits 11 15)) (by kernel_rfl) (by kernel_rfl) rfl (fun _ _ _ _ h => h) ?_; apply Exists.intro; refine And.intro (fun x => ?_) ?_
      · go_big_quiet_step ((first | (go_at_call 19; with_reducible exact Calls.quietE (CK5.out.out _ (by repeat (first | assumption | exact Ext.refl _ | refine Ext.trans ?_ (ext_grow _ _))))))); exact wpQuiet_nil rfl
      refine Dm.wpE_take (i := 4) (listed' := (Dm.bits 11 31)) (by kernel_rfl) (by kernel_rfl) rfl (fun _ _ _ _ h => h) ?_; apply Exists.intro; refine And.intro (fun x => ?_) ?_
      · (try rw [hKb]); go_big_quiet_skip; exact wpQuiet_nil rfl
      refine Dm.wpE_take (i := 5) (listed' := (Dm.bits 11 63)) (by kernel_rfl) (by kernel_rfl) rfl (fun _ _ _ _ h => h) ?_; apply Exists.intro; refine And.intro (fun x => ?_) ?_
      · (try rw [hKb]); go_big_quiet_skip; exact wpQuiet_nil rfl
      refine Dm.wpE_take (i := 6) (listed' := (Dm.bits 11 127)) (by kernel_rfl) (by kernel_rfl) rfl (fun _ _ _ _ h => h) ?_; apply Exists.intro; refine And.intro (fun x => ?_) ?_
      · (try rw [hKb]); go_big_quiet_skip; exact wpQuiet_nil rfl
      refine Dm.wpE_take (i := 7) (listed' := (Dm.bits 11 255)) (by kernel_rfl) (by kernel_rfl) rfl (fun _ _ _ _ h => h) ?_; apply Exists.intro; refine And.intro (fun x => ?_) ?_
      · (try rw [hKb]); go_big_quiet_skip; exact wpQuiet_nil rfl
      refine Dm.wpE_take (i := 8) (listed' := (Dm.bits 11 511)) (by kernel_rfl) (by kernel_rfl) rfl (fun _ _ _ _ h => h) ?_; apply Exists.intro; refine And.intro (fun x => ?_) ?_
      · (try rw [hKb]); go_big_quiet_skip; exact wpQuiet_nil rfl
      refine Dm.wpE_take (i := 9) (listed' := (Dm.bits 11 1023)) (by kernel_rfl) (by kernel_rfl) rfl (fun _ _ _ _ h => h) ?_; apply Exists.intro; refine And.intro (fun x => ?_) ?_
      · (try rw [hKb]); go_big_quiet_skip; exact wpQuiet_nil rfl
      refine Dm.wpE_take (i := 10) (listed' := (Dm.bits 11 2047)) (by kernel_rfl) (by kernel_rfl) rfl (fun _ _ _ _ h => h) ?_; apply Exists.intro; refine And.intro (fun x => ?_) ?_
      · go_big_quiet_step ((first | (go_at_call 19; with_reducible exact Calls.quietE (CK5.out.out _ (by repeat (first | assumption | exact Ext.refl _ | refine Ext.trans ?_ (ext_grow _ _))))))); exact wpQuiet_nil rfl
      refine Dm.wpE_done (by kernel_rfl) (Ext.refl w5) (fun w1a hx1a => ?_)
      have hX1a := Ext.trans (Ext.refl w5) hx1a
      replace hE5 := hE5.trans hX1a
      have hB6 := hB5.ext hX1a
      have hE6 := hE5
      have hT6 := hT5.ext hX1a
      have hY6 := hY5.ext hX1a
      clear hE5 hB5 hT5 hY5 yl y0 y1 y2 y3 y4 y5 y6 y7 y8 v0 vl
      generalize w1a = w6 at *
      obtain ⟨rl, r0, r1, r2, r3, r4, r5, r6, r7, r8, rf0, rf1, rf2, rf3, rf4, rf5, rf6, rf7, rf8⟩ := hB6.cells9
      have hKi : ¬ ((K : Int) = 0) := by omega
      go_wp2
      clear rl r0 rf0 r1 rf1 r2 rf2 r3 rf3 r4 rf4 r5 rf5 r6 rf6 r7 rf7 r8 rf8
      have hz := hB6.put9 (.string ⟨#[]⟩) (.int .u64 0) (.int .u64 0) (.int .u64 0) (.int .u64 0) (.int .i64 0) (.int .i64 0) (.int .i64 0) (.slice none 0 0)
      obtain ⟨_, k0, k1, k2, k3, k4, k5, k6, k7, k8, _, _, _, _, _, _, _, _, _⟩ := hz.cells9
      refine bodyPost_ret (v := .tuple #[.agg #[.string ⟨#[]⟩, .int .u64 0, .int .u64 0, .int .u64 0, .int .u64 0, .int .i64 0, .int .i64 0, .int .i64 0, .slice none 0 0], .bool false]) (by simp [results, Tryz.results15, go_sem, k0, k1, k2, k3, k4, k5, k6, k7, k8]) rfl ?_
      exact ⟨GotP.no _, Ext.cput9 hE6 (b := w.heap.size + 1) (by omega) _ _ _ _ _ _ _ _ _⟩
  · have hG : parseX (bytesOf ws) = (noSp, false) := by
      unfold parseX
      rw [if_neg]
      rintro ⟨h, _⟩
      apply h6
      rw [← h]
      simp [bytesOf]
    rw [hG]
    clear hG
    have hlz : ¬ ((ws.length : Int) = 6) := by omega
    obtain ⟨qa, qb, qc, qd, qe, qf, qg, qh, qi, qj, ff0, ff1, ff2, ff3, ff4, ff5, ff6, ff7, ff8⟩ := hB0.cells9
    have v0 := hV0.cell 0 (by simp)
    have vl := hV0.lt
    change World.cell? _ _ = some (.slice q ws.length cap) at v0
    generalize hW0 : (w.alloc (.cells #[.slice q ws.length cap] 28)).alloc (.cells #[.string ⟨#[]⟩, .int .u64 0, .int .u64 0, .int .u64 0, .int .u64 0, .int .i64 0, .int .i64 0, .int .i64 0, .slice none 0 0] 27) = W at *
    go_enter Tryz.func15, Tryz.ntmps15
    go_wp2
    clear hW0
    have hz := hB0.put9 (.string ⟨#[]⟩) (.int .u64 0) (.int .u64 0) (.int .u64 0) (.int .u64 0) (.int .i64 0) (.int .i64 0) (.int .i64 0) (.slice none 0 0)
    obtain ⟨_, k0, k1, k2, k3, k4, k5, k6, k7, k8, _, _, _, _, _, _, _, _, _⟩ := hz.cells9
    refine bodyPost_ret (v := .tuple #[.agg #[.string ⟨#[]⟩, .int .u64 0, .int .u64 0, .int .u64 0, .int .u64 0, .int .i64 0, .int .i64 0, .int .i64 0, .slice none 0 0], .bool false]) (by simp [results, Tryz.results15, go_sem, k0, k1, k2, k3, k4, k5, k6, k7, k8]) rfl ?_
    exact ⟨GotP.no _, Ext.cput9 hE0 (b := w.heap.size + 1) (by omega) _ _ _ _ _ _ _ _ _⟩
end Go.Proofs.YthmhalcloogniaaGreatDoor
