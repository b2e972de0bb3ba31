/- Texts one behind the other: Chapter 10, the document's: the walk of Get. -/
import Derived.Test.YtopnllbfhhjobaaGreatDoorT25
import Derived.Test.YtopnllbfhhjobaaGreatDoorT22
import Derived.Test.YtopnllbfhhjobaaGreatDoorT26
namespace Go.Dm
open Go Go.RowKit
/-- The document's way: it does not stop at an entry of nothing. -/
def getDs (l : Bs) : Nat → Int → List EntQ → Option (List EntQ × Int)
  | 0, q, R => some (R, q)
  | k + 1, q, R => if (entI l q).2.2 = false then none else getDs l k (entI l q).2.1 (R ++ [(entI l q).1])
theorem getDs_pre {l : Bs} : ∀ {k : Nat} {q : Int} {R : List EntQ} {x : List EntQ × Int}, getDs l k q R = some x → ∃ Y, x.1 = R ++ Y
  | 0, q, R, x, e => by injection e with e; subst e; exact ⟨[], by simp⟩
  | k + 1, q, R, x, e => by
    unfold getDs at e
    split at e
    · cases e
    · obtain ⟨Y, hY⟩ := getDs_pre e
      exact ⟨_, by rw [hY, List.append_assoc]⟩
theorem noEnt_wrong {R Y : List EntQ} (h : R ≠ []) : rightQ ((R ++ [noEnt]) ++ Y) = false := by
  have hp := List.length_pos_iff.2 h
  refine rightQ_no2 (k := R.length) (by simp) ?_
  have e : eAt ((R ++ [noEnt]) ++ Y) R.length = noEnt := by simp [eAt]
  unfold okQ
  rw [e, decide_eq_false (by omega), Bool.false_or]
  show (Op.bytesLess _ [] && _) = false
  rw [less_nil, Bool.false_and]
theorem getDs_es {l : Bs} : ∀ (k : Nat) (q : Int) (R : List EntQ), getEs l k q R = getDs l k q R ∨ (getEs l k q R = none ∧ ∀ x, getDs l k q R = some x → rightQ x.1 = false)
  | 0, q, R => Or.inl rfl
  | k + 1, q, R => by
    unfold getEs getDs
    by_cases h1 : (entI l q).2.2 = false
    · rw [if_pos (Or.inl h1), if_pos h1]; exact Or.inl rfl
    · rw [if_neg h1]
      by_cases h2 : (entI l q).1 = noEnt ∧ R ≠ []
      · rw [if_pos (Or.inr h2)]
        refine Or.inr ⟨rfl, fun x hx => ?_⟩
        obtain ⟨Y, hY⟩ := getDs_pre hx
        rw [hY, h2.1]
        exact noEnt_wrong h2.2
      · rw [if_neg (fun h => h.elim h1 h2)]
        exact getDs_es k _ _
theorem getQ_ds (l : Bs) (g : Nat × Int × Bool) : getQJ l g = (if g.2.2 = false ∨ 16 < g.1 then ([], 0, false)
  else match getDs l g.1 g.2.1 [] with
    | none => ([], 0, false)
    | some (R, q) => if rightQ R = true then (R, q, true) else ([], 0, false)) := by
  unfold getQJ
  split
  · rfl
  · rcases getDs_es (l := l) g.1 g.2.1 [] with h | ⟨h, h2⟩
    · rw [h]
      cases getDs l g.1 g.2.1 [] <;> rfl
    · rw [h]
      cases hd : getDs l g.1 g.2.1 [] with
      | none => rfl
      | some x =>
        have := h2 x hd
        obtain ⟨R, q⟩ := x
        simp only at this
        simp [this]
theorem entI_no {l : Bs} {q : Int} {ts : Bs} {one two en : Int} {a b c : Bool} {V1 V2 : Vc} (h1 : atI (getTextL 98) [] l q = (ts, one, a)) (h2 : getV l one = (V1, two, b)) (h3 : getV l two = (V2, en, c)) (h : (a && b && c) = false) : (entI l q).2.2 = false := by
  unfold entI entJ
  simp only [h1, h2, h3]
  cases a
  · rfl
  · cases b
    · rfl
    · cases c
      · rfl
      · cases h
theorem entI_yes {l : Bs} {q : Int} {ts : Bs} {one two en : Int} {V1 V2 : Vc} (h1 : atI (getTextL 98) [] l q = (ts, one, true)) (h2 : getV l one = (V1, two, true)) (h3 : getV l two = (V2, en, true)) : entI l q = ((⟨ts.toArray⟩, V1, V2), en, true) := by
  unfold entI entJ
  simp [h1, h2, h3]
end Go.Dm
namespace Go.Proofs.YtopnllbfhhjobaaGreatDoor
open Go.RowKit Go.Dm
set_option maxHeartbeats 8000000 in
set_option maxRecDepth 100000 in
theorem dget_w (s : ByteArray) (i : Int) (w : World) (hs : s.size ≤ 281474976710656) :
    Calls Tryz.prog 17 #[.string s, .int .i64 i] w fun e w' => ∃ v, e = .returned (.tuple #[v, .int .i64 (getQ s.data.toList i).2.1, .bool (getQ s.data.toList i).2.2]) ∧ Tree w' v (getQ s.data.toList i).1 ∧ Ext w w' := by
  have C0 := fun U => rget_w s i U hs
  have CT := fun (j : Int) U => rgettext_w s j 98 U hs (by omega)
  have CV := fun (j : Int) U => r03get_w s j U hs
  have hu := getI_u64q s.data.toList i
  have hfit := fun (j : Int) => entI_fit s.data.toList j
  have hst : getQ s.data.toList i = _ := getQ_ds s.data.toList (getI s.data.toList i)
  generalize getQ s.data.toList i = E at *
  have hs0 := fun q R => show getDs s.data.toList 0 q R = some (R, q) from rfl
  have hs1 := fun k q R => show getDs s.data.toList (k + 1) q R = if (entI s.data.toList q).2.2 = false then none else getDs s.data.toList k (entI s.data.toList q).2.1 (R ++ [(entI s.data.toList q).1]) from rfl
  have hno := fun q ts one two en a b c V1 V2 => entI_no (l := s.data.toList) (q := q) (ts := ts) (one := one) (two := two) (en := en) (a := a) (b := b) (c := c) (V1 := V1) (V2 := V2)
  have hyes := fun q ts one two en V1 V2 => entI_yes (l := s.data.toList) (q := q) (ts := ts) (one := one) (two := two) (en := en) (V1 := V1) (V2 := V2)
  generalize getDs s.data.toList = ge at *
  generalize entI s.data.toList = ei at *
  generalize getI s.data.toList i = g at *
  generalize getV s.data.toList = gv at *
  generalize atI (getTextL 98) [] s.data.toList = gt at *
  obtain ⟨N, q0, o⟩ := g
  simp only at C0 hst hu
  unfold vVal vF at CV
  have CR := fun (R : List EntQ) (v : Value) U (hR : FitT R) (hl : R.length ≤ 16) (hx : Tree U v R) => dright_w R v U (by omega) hR hx
  replace C0 := Lib.hid C0
  replace CT := Lib.hid CT
  replace CV := Lib.hid CV
  replace CR := Lib.hid CR
  replace hst := Lib.hid hst
  replace hs0 := Lib.hid hs0
  replace hs1 := Lib.hid hs1
  replace hfit := Lib.hid hfit
  replace hno := Lib.hid hno
  replace hyes := Lib.hid hyes
  go_enter Tryz.func17, Tryz.ntmps17
  go_wp2_with fail
  refine (C0.out _).mono ?_; rintro e w1 ⟨rfl, h1⟩
  cases o with
  | false =>
    have hE := hst.out
    rw [if_pos (Or.inl rfl)] at hE
    clear hst
    go_wp2
    refine bodyPost_ret (results3 rfl _ _ _) rfl ?_
    exact ⟨_, by rw [hE]; rfl, by rw [hE]; exact Tree.nil _, h1⟩
  | true =>
  by_cases hN : 16 < N
  · have hE := hst.out
    rw [if_pos (Or.inr hN)] at hE
    clear hst
    have hNi : (16 : Int) < (N : Int) := by omega
    go_wp2
    refine bodyPost_ret (results3 rfl _ _ _) rfl ?_
    exact ⟨_, by rw [hE]; rfl, by rw [hE]; exact Tree.nil _, h1⟩
  have hst2 := hst.out
  rw [if_neg (fun h => h.elim (by simp) hN)] at hst2
  replace hst := Lib.hid hst2
  clear hst2
  have hNi : ¬ (16 : Int) < (N : Int) := by omega
  have hNn : N ≤ 16 := by omega
  go_wp2
  go_loopw [1, 9, 10, 11, 12, 13, 14, 15, 16, 17, 18, 19] (fun a t i _ _ _ _ _ _ _ _ _ wr => ∃ (R : List EntQ) (q : Int), R.length ≤ N ∧ i = .int .i64 R.length ∧ a = .int .i64 q ∧ wr.ownsRow w.heap.size 42 9 t R.length (entCellsQ R) ∧ FitT R ∧ Ext w wr ∧ Hid (ge N q0 [] = ge (N - R.length) q R)) (fun _ _ i _ _ _ _ _ _ _ _ _ _ => N - (intOf i).toNat)
  case atStart => exact ⟨[], q0, by simp, rfl, rfl, World.ownsRow_nil _ _ _ _, FitT.nil, h1, rfl⟩
  case round =>
    obtain ⟨R, q, hk, rfl, rfl, ho, hR, hb, HG⟩ := hrel
    obtain ⟨p, cap, rfl, _, _⟩ := (Sl.of_owns ho).shape
    by_cases hlt : R.length < N
    · have CT1 := CT.out q
      have hS := hs1.out (N - (R.length + 1)) q R
      rw [show N - (R.length + 1) + 1 = N - R.length by omega] at hS
      have HG1 := HG.out
      rw [hS] at HG1
      clear hS HG
      have hf := hfit.out q
      have hno1 := hno.out q
      have hyes1 := hyes.out q
      obtain ⟨⟨ts, one, a⟩, hr⟩ : ∃ r, gt q = r := ⟨_, rfl⟩
      rw [hr] at CT1
      have CV1 := CV.out one
      obtain ⟨⟨V1, two, b⟩, hr2⟩ : ∃ r, gv one = r := ⟨_, rfl⟩
      rw [hr2] at CV1
      have CV2 := CV.out two
      obtain ⟨⟨V2, en, c⟩, hr3⟩ : ∃ r, gv two = r := ⟨_, rfl⟩
      rw [hr3] at CV2
      replace hno1 := hno1 ts one two en a b c V1 V2 hr hr2 hr3
      have hyes2 : (a && b && c) = true → ei q = ((⟨ts.toArray⟩, V1, V2), en, true) := fun h => by
        rw [Bool.and_eq_true, Bool.and_eq_true] at h
        obtain ⟨⟨rfl, rfl⟩, rfl⟩ := h
        exact hyes1 ts one two en V1 V2 hr hr2 hr3
      clear hyes1 hr hr2 hr3
      simp only at CT1 CV1 CV2
      generalize (⟨ts.toArray⟩ : ByteArray) = xs at *
      replace CT1 := Lib.hid CT1
      replace CV1 := Lib.hid CV1
      replace CV2 := Lib.hid CV2
      replace hno1 := Lib.hid hno1
      replace hyes2 := Lib.hid hyes2
      go_wp2_with fail
      refine (CT1.out _).mono ?_; rintro e w2 ⟨rfl, h2⟩
      go_wp2_with fail
      refine (CV1.out _).mono ?_; rintro e w3 ⟨rfl, h3⟩
      have hB1 := VBox.new w3 (vG V1) 34
      have hEn3 := (Ext.refl w3).alloc (.cells #[.int .u64 (vG V1 0 : Nat), .int .u64 (vG V1 1 : Nat), .int .u64 (vG V1 2 : Nat), .int .u64 (vG V1 3 : Nat)] 34)
      have hX1 := (h2.trans h3).trans hEn3
      go_wp2_with fail
      generalize w3.alloc (.cells #[.int .u64 (vG V1 0 : Nat), .int .u64 (vG V1 1 : Nat), .int .u64 (vG V1 2 : Nat), .int .u64 (vG V1 3 : Nat)] 34) = X1 at *
      generalize w3.heap.size = zb1 at *
      refine (CV2.out _).mono ?_; rintro e w4 ⟨rfl, h4⟩
      have hB2 := VBox.new w4 (vG V2) 34
      have hEn4 := (Ext.refl w4).alloc (.cells #[.int .u64 (vG V2 0 : Nat), .int .u64 (vG V2 1 : Nat), .int .u64 (vG V2 2 : Nat), .int .u64 (vG V2 3 : Nat)] 34)
      replace hB1 := (hB1.ext h4).ext hEn4
      have hX2 := (hX1.trans h4).trans hEn4
      obtain ⟨_, z0, z1, z2, z3, _, _, _, _⟩ := hB1.four
      obtain ⟨_, y0, y1, y2, y3, _, _, _, _⟩ := hB2.four
      have hb3 := hb.trans hX2
      have ho3 := Ext.row ho hX2
      clear hX2 hX1 h2 h3 h4 hEn3
      cases habc : (a && b && c) with
      | false =>
        have hE := hst.out
        rw [HG1, if_pos (hno1.out habc)] at hE
        simp only at hE
        clear hst HG1 hno1 hyes2
        cases a with
        | false =>
          go_wp2
          refine bodyPost_ret (results3 rfl _ _ _) rfl ?_
          exact ⟨_, by rw [hE]; rfl, by rw [hE]; exact Tree.nil _, hb3⟩
        | true =>
        cases b with
        | false =>
          go_wp2
          refine bodyPost_ret (results3 rfl _ _ _) rfl ?_
          exact ⟨_, by rw [hE]; rfl, by rw [hE]; exact Tree.nil _, hb3⟩
        | true =>
        cases c with
        | false =>
          go_wp2
          refine bodyPost_ret (results3 rfl _ _ _) rfl ?_
          exact ⟨_, by rw [hE]; rfl, by rw [hE]; exact Tree.nil _, hb3⟩
        | true => cases habc
      | true =>
        have hei := hyes2.out habc
        rw [hei] at HG1 hf
        rw [if_neg (by simp)] at HG1
        simp only at HG1 hf
        obtain ⟨hxs, hxl, hxu⟩ := hf
        rw [Bool.and_eq_true, Bool.and_eq_true] at habc
        obtain ⟨⟨ha, hbb⟩, hcc⟩ := habc
        subst ha hbb hcc
        clear hei hno1 hyes2
        replace HG1 := Lib.hid HG1
        have hfs : FitT (R ++ [(xs, V1, V2)]) := by
          refine ⟨fun r hr => ?_, fun r hr => ?_, fun r hr => ?_⟩ <;> rcases List.mem_append.1 hr with hr | hr
          · exact hR.path r hr
          · rw [List.mem_singleton.1 hr]; show xs.size ≤ _; omega
          · exact hR.lim r hr
          · rw [List.mem_singleton.1 hr]; exact hxl
          · exact hR.used r hr
          · rw [List.mem_singleton.1 hr]; exact hxu
        have hone : ∀ u ∈ (#[.string xs, .int .u64 (vG V1 0 : Nat), .int .u64 (vG V1 1 : Nat), .int .u64 (vG V1 2 : Nat), .int .u64 (vG V1 3 : Nat), .int .u64 (vG V2 0 : Nat), .int .u64 (vG V2 1 : Nat), .int .u64 (vG V2 2 : Nat), .int .u64 (vG V2 3 : Nat)] : Array Value).toList, u.oneCell' = true := entOne_one (xs, V1, V2)
        have hsl := Sl.lit (w4.alloc (.cells #[.int .u64 (vG V2 0 : Nat), .int .u64 (vG V2 1 : Nat), .int .u64 (vG V2 2 : Nat), .int .u64 (vG V2 3 : Nat)] 34)) 42 9 1 #[.string xs, .int .u64 (vG V1 0 : Nat), .int .u64 (vG V1 1 : Nat), .int .u64 (vG V1 2 : Nat), .int .u64 (vG V1 3 : Nat), .int .u64 (vG V2 0 : Nat), .int .u64 (vG V2 1 : Nat), .int .u64 (vG V2 2 : Nat), .int .u64 (vG V2 3 : Nat)] rfl (by simp [maxLen])
        rw [World.size_alloc] at hsl
        replace hsl := Lib.hid hsl
        go_wp2_with (at_builtin; go_must (refine wpList_appE (n := R.length) (m := 1) rfl _ _ Tryz.slEntR rfl (hb3.trans ((Ext.refl _).alloc _)) rfl (Ext.row ho3 ((Ext.refl _).alloc _)) rfl hsl.out hone (by omega) ?_; intro v5 w5 ho5 hb5 _))
        go_roundw
        case rel => exact ⟨R ++ [(xs, V1, V2)], en, by simp; omega, by rw [List.length_append]; go_num, rfl, by rw [List.length_append, entCellsQ_app]; exact ho5, hfs, hb5, by rw [List.length_append]; show _ = _; rw [HG1.out]; rfl⟩
        case measure => simp [intOf]; omega
    · obtain rfl : N = R.length := by omega
      have hT : Tree wr (.slice p R.length cap) R := Tree.of_row ho rfl
      have C := CR.out R _ wr hR (by omega) hT
      have hE := hst.out
      rw [HG.out, Nat.sub_self, hs0.out] at hE
      simp only at hE
      clear hst HG
      cases hd : rightQ R with
      | false =>
        rw [hd] at C hE
        rw [if_neg (by simp)] at hE
        replace C := Lib.hid C
        clear hd
        go_wp2_with fail
        refine C.out.mono ?_; rintro e w3 ⟨rfl, h3⟩
        go_wp2
        refine bodyPost_ret (results3 rfl _ _ _) rfl ?_
        exact ⟨_, by rw [hE]; rfl, by rw [hE]; exact Tree.nil _, hb.trans h3⟩
      | true =>
        rw [hd] at C hE
        rw [if_pos rfl] at hE
        replace C := Lib.hid C
        clear hd
        go_wp2_with fail
        refine C.out.mono ?_; rintro e w3 ⟨rfl, h3⟩
        go_wp2
        refine bodyPost_ret (results3 rfl _ _ _) rfl ?_
        exact ⟨_, by rw [hE]; rfl, by rw [hE]; exact hT.ext h3, hb.trans h3⟩
end Go.Proofs.YtopnllbfhhjobaaGreatDoor
