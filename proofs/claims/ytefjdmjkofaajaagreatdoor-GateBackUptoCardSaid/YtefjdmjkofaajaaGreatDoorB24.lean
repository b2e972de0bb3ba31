/- Texts one behind the other: Chapter 4: the walk of the program's some (a list of labels that stands at a place); Chapter 4: the walk of the program's Get (labels that stand at a place); Chapters 1 and 4 in plain terms: what is got is what was put. No program in sight; Chapter 4: (what was here stands in VWalkF, VWalkG.). -/
import Derived.Test.YtefjdmjkofaajaaGreatDoorB11
import Derived.Test.YtefjdmjkofaajaaGreatDoorB9
namespace Go.Dm
open Go Go.RowKit

/-- So many things, one behind the other, from a place on. -/
def readsL {α : Type} (g : Bs → Option (α × Nat)) (l : Bs) (q : Nat) : Nat → Option (List α × Nat)
  | 0 => some ([], q)
  | i + 1 => match readsL g l q i with
    | some (xs, r) => match g (l.drop r) with
      | some (x, m) => some (xs ++ [x], r + m)
      | none => none
    | none => none

theorem readsL_none {α : Type} {g : Bs → Option (α × Nat)} {l : Bs} {q i : Nat} (h : readsL g l q i = none) : ∀ {j}, i ≤ j → readsL g l q j = none
  | 0, hj => by obtain rfl : i = 0 := by omega
                exact h
  | j + 1, hj => by
    rcases Nat.lt_or_ge i (j + 1) with h1 | h1
    · rw [readsL, readsL_none h (by omega)]
    · obtain rfl : i = j + 1 := by omega
      exact h

/-- The list that stands first. -/
def someL {α : Type} (g : Bs → Option (α × Nat)) (most : Nat) (l : Bs) : Option (List α × Nat) :=
  match getL l with
  | some (u, n) => if u ≤ most then readsL g l n u else none
  | none => none

theorem someL_none {α : Type} {g : Bs → Option (α × Nat)} {most : Nat} {l : Bs} (h : getL l = none) : someL g most l = none := by
  unfold someL; rw [h]
theorem someL_some {α : Type} {g : Bs → Option (α × Nat)} {most : Nat} {l : Bs} {u n : Nat} (h : getL l = some (u, n)) : someL g most l = if u ≤ most then readsL g l n u else none := by
  unfold someL; rw [h]
theorem someI_no {α : Type} {g : Bs → Option (α × Nat)} {most : Nat} {l : Bs} {p : Int} (h : (getI l p).2.2 = false) : atI (someL g most) [] l p = ([], 0, false) := by
  unfold atI
  by_cases hp : p < 0 ∨ (l.length : Int) ≤ p
  · rw [if_pos hp]
  · rw [if_neg hp]
    rw [getI_at] at h
    unfold atI at h
    rw [if_neg hp] at h
    cases hg : getL (l.drop p.toNat) with
    | none => rw [someL_none hg]
    | some x => rw [hg] at h; cases h

theorem getPairL_nil : getPairL [] = none := rfl
theorem getPairL_fit {l : Bs} {k v : Bs} {n : Nat} (h : getPairL l = some ((k, v), n)) : k.length ≤ 32 ∧ v.length ≤ 32 := by
  have one : ∀ {l t : Bs} {n : Nat}, getTextL 32 l = some (t, n) → t.length ≤ 32 := by
    intro l t n h
    cases hg : getL l with
    | none => rw [getTextL_none hg] at h; cases h
    | some x =>
      obtain ⟨u, m⟩ := x
      rw [getTextL_some hg] at h
      split at h
      · rename_i hc
        injection h with h
        injection h with h1 _
        rw [← h1, List.length_take]; omega
      · cases h
  unfold getPairL at h
  cases h1 : getTextL 32 l with
  | none => rw [h1] at h; cases h
  | some x =>
    obtain ⟨a, i⟩ := x
    rw [h1] at h
    simp only at h
    cases h2 : getTextL 32 (l.drop i) with
    | none => rw [h2] at h; cases h
    | some y =>
      obtain ⟨b, j⟩ := y
      rw [h2] at h
      injection h with h
      injection h with h _
      injection h with e1 e2
      exact ⟨e1 ▸ one h1, e2 ▸ one h2⟩
theorem readsL_stop {l : Bs} {q n k r : Nat} {xs : List PairL} (h : readsL getPairL (l.drop q) n k = some (xs, r)) (hb : (atI getPairL ([], []) l ((q : Int) + (r : Int))).2.2 = false) : readsL getPairL (l.drop q) n (k + 1) = none := by
  rw [atI_drop getPairL_nil] at hb
  rw [readsL, h]
  simp only [List.drop_drop]
  cases hg : getPairL (l.drop (q + r)) with
  | none => rfl
  | some x => rw [hg] at hb; cases hb
theorem readsL_go {l : Bs} {q n k r : Nat} {xs : List PairS} {P : PairS} {at' : Int} (h : readsL getPairL (l.drop q) n k = some (labL xs, r)) (hb : atI getPairL ([], []) l ((q : Int) + (r : Int)) = (pL P, at', true)) :
    ∃ r2 : Nat, at' = (q : Int) + (r2 : Int) ∧ P.1.size ≤ 32 ∧ P.2.size ≤ 32 ∧ readsL getPairL (l.drop q) n (k + 1) = some (labL (xs ++ [P]), r2) := by
  rw [atI_drop getPairL_nil] at hb
  cases hg : getPairL (l.drop (q + r)) with
  | none => rw [hg] at hb; injection hb with _ hb; injection hb with _ hb; cases hb
  | some x =>
    obtain ⟨x, m⟩ := x
    rw [hg] at hb
    injection hb with e1 hb
    injection hb with e2 _
    subst e1
    refine ⟨r + m, by rw [← e2]; omega, ?_, ?_, ?_⟩
    · exact (getPairL_fit (k := (pL P).1) (v := (pL P).2) hg).1
    · exact (getPairL_fit (k := (pL P).1) (v := (pL P).2) hg).2
    · rw [readsL, h]
      simp only [List.drop_drop, hg]
      simp [labL]
theorem fit_snoc {l : List PairS} {P : PairS} (h : FitP l) (h1 : P.1.size ≤ 140737488351232) (h2 : P.2.size ≤ 140737488351232) : FitP (l ++ [P]) := by
  intro p hp
  rcases List.mem_append.1 hp with hp | hp
  · exact h p hp
  · rw [List.mem_singleton] at hp; subst hp; exact ⟨h1, h2⟩
theorem row_ge {w : World} {base : Nat} {e : TypeId} {size n c : Nat} {v : Value} {xs : List Value} (h : w.ownsRow base e size v n xs) (hc : v.ownBlock = some c) : base ≤ c := by
  rcases h.2 with ⟨rfl, _⟩ | ⟨g, cap, cur, rfl, hb, _⟩
  · cases hc
  · injection hc with hc; subst hc; exact hb
end Go.Dm
namespace Go.Proofs.YtefjdmjkofaajaaGreatDoor
open Go.RowKit Go.Dm

set_option maxHeartbeats 4000000 in
set_option maxRecDepth 100000 in
theorem lsomeO_w (s : ByteArray) (p : Int) (w : World) (hs : s.size ≤ 281474976710656) :
    Calls Tryz.prog 116 #[.string s, .int .i64 p, .int .i64 8, .func (.func 117) #[] #[]] w fun e w' => ∃ r l n b, e = .returned (.tuple #[r, .int .i64 n, .bool b]) ∧ Pairs w' r l ∧ FitP l ∧ l.length ≤ 8 ∧ atI (someL getPairL 8) [] s.data.toList p = (labL l, n, b) ∧ (∀ c, r.ownBlock = some c → w.heap.size ≤ c) ∧ Ext w w' := by
  have hln : s.data.toList.length = s.size := rfl
  have C := wget_w s p w hs
  cases hc : (getI s.data.toList p).2.2 with
  | false =>
    rw [someI_no hc]
    rw [hc] at C
    clear hc
    generalize (getI s.data.toList p).1 = u at C
    generalize (getI s.data.toList p).2.1 = n at C
    go_enter Tryz.func116, Tryz.ntmps116
    go_wp2_with (refine C.mono ?_; rintro e w' ⟨rfl, hb⟩)
    refine bodyPost_ret (results3 rfl _ _ _) rfl ?_
    exact ⟨_, [], 0, false, rfl, Pairs.nil _, FitP.nil, by simp, rfl, (fun c h => by cases h), hb⟩
  | true =>
    have hin : ¬ (p < 0 ∨ (s.data.toList.length : Int) ≤ p) := fun h => by rw [getI_out h] at hc; cases hc
    obtain ⟨q, rfl⟩ : ∃ q : Nat, p = (q : Int) := ⟨p.toNat, by omega⟩
    rw [hln] at hin
    have hq : q < s.size := by omega
    rw [getI_in (by rw [hln]; exact hq)] at C hc
    have HA : atI (someL getPairL 8) [] s.data.toList (q : Int) = match someL getPairL 8 (s.data.toList.drop q) with | some (u, m) => (u, (q : Int) + (m : Int), true) | none => ([], 0, false) := by
      unfold atI; rw [if_neg (by rw [hln]; exact hin), show ((q : Int)).toNat = q from rfl]; cases someL getPairL 8 (s.data.toList.drop q) <;> rfl
    cases hg : getL (s.data.toList.drop q) with
    | none => rw [hg] at hc; cases hc
    | some x =>
      obtain ⟨u, n⟩ := x
      rw [hg] at C
      rw [someL_some hg] at HA
      obtain ⟨l1, l2, l3, l4⟩ := getL_len hg
      rw [List.length_drop, hln] at l2
      clear hc hg hin
      simp only at C
      by_cases hu : u ≤ 8
      · rw [if_pos hu] at HA
        replace HA := Lib.hid HA
        generalize hG : atI (someL getPairL 8) [] s.data.toList (q : Int) = G at HA
        clear hG
        go_enter Tryz.func116, Tryz.ntmps116
        go_wp2_with (refine C.mono ?_; rintro e w1 ⟨rfl, h1⟩)
        go_loopw [8, 1, 31] (fun v a' i' wr => ∃ (k : Nat) (xs : List PairS) (r : Nat), k ≤ u ∧ i' = .int .u64 k ∧ a' = .int .i64 ((q : Int) + (r : Int)) ∧ Ext w1 wr ∧ wr.ownsRow w1.heap.size 126 2 v k (pairCells xs) ∧ xs.length = k ∧ FitP xs ∧ Hid (readsL getPairL (s.data.toList.drop q) n k = some (labL xs, r))) (fun _ _ i' _ => u - (intOf i').toNat)
        case atStart => exact ⟨0, [], n, by omega, rfl, rfl, Ext.refl _, World.ownsRow_nil _ _ _ _, rfl, FitP.nil, Lib.hid rfl⟩
        case round =>
          obtain ⟨k, xs, r, hk, rfl, rfl, hb, ho, hxl, hF, HR⟩ := hrel
          by_cases hlt : k < u
          · have C2 := lpair_w s ((q : Int) + (r : Int)) wr hs
            have hw3 := h1.trans hb
            go_wp2_with fail
            refine C2.mono ?_; rintro e w2 ⟨P, n2, b, rfl, hb2, hP2, h2⟩
            clear C2
            cases b with
            | false =>
              have hno := readsL_none (readsL_stop HR.out hb2.symm) (show k + 1 ≤ u by omega)
              replace hno := Lib.hid hno
              clear hb2 hP2
              go_wp2_with fail
              refine bodyPost_ret (results3 rfl _ _ _) rfl ?_
              exact ⟨_, [], 0, false, rfl, Pairs.nil _, FitP.nil, by simp, by rw [HA.out, hno.out]; rfl, (fun c h => by cases h), hw3.trans (h2.trans ((Ext.refl w2).alloc _))⟩
            | true =>
              obtain ⟨r2, hr2, hf1, hf2, HR2⟩ := readsL_go HR.out (hP2 rfl)
              subst hr2
              replace HR2 := Lib.hid HR2
              clear hb2 hP2
              have hb2 := (hb.trans h2).trans ((Ext.refl w2).alloc (.cells #[.string P.1, .string P.2] 126))
              have ho2 := Ext.row (Ext.row ho h2) ((Ext.refl w2).alloc (.cells #[.string P.1, .string P.2] 126))
              have hl4 := Sl.lit (w2.alloc (.cells #[.string P.1, .string P.2] 126)) 126 2 1 #[.string P.1, .string P.2] rfl (by simp [maxLen])
              have hb4 := hb2.trans ((Ext.refl _).alloc (.cells #[.string P.1, .string P.2] 126))
              have ho4 := Ext.row ho2 ((Ext.refl _).alloc (.cells #[.string P.1, .string P.2] 126))
              simp only [World.size_alloc] at hl4
              clear ho ho2
              go_wp2_with (at_builtin; refine wpList_appE rfl _ _ Tryz.slPair rfl hb4 rfl ho4 rfl hl4 (pairCells_one [P]) (by omega) ?_; intro v5 w5 ho5 hb5 _)
              go_roundw
              case rel => exact ⟨k + 1, xs ++ [P], r2, by omega, by go_num, rfl, hb5, by rw [pairCells_app]; exact ho5, by simp [hxl], fit_snoc hF (by omega) (by omega), HR2⟩
              case measure => simp [intOf]; omega
          · obtain rfl : k = u := by omega
            go_wp2_with fail
            refine bodyPost_ret (results3 rfl _ _ _) rfl ?_
            exact ⟨_, xs, _, true, rfl, Pairs.of_row ho hxl.symm, hF, by omega, by rw [HA.out, HR.out], (fun c h => Nat.le_trans h1.size (row_ge ho h)), h1.trans hb⟩
      · rw [if_neg hu] at HA
        rw [HA]
        clear HA
        go_enter Tryz.func116, Tryz.ntmps116
        go_wp2_with (refine C.mono ?_; rintro e w1 ⟨rfl, h1⟩)
        all_goals
          refine bodyPost_ret (results3 rfl _ _ _) rfl ?_
          exact ⟨_, [], 0, false, rfl, Pairs.nil _, FitP.nil, by simp, rfl, (fun c h => by cases h), h1⟩


end Go.Proofs.YtefjdmjkofaajaaGreatDoor

namespace Go.Dm
open Go Go.RowKit

/-- The labels that stand first. -/
def getLabL (l : Bs) : Option (List PairL × Nat) :=
 match someL getPairL 8 l with
 | some (xs, n) => if rightLab xs = true then some (xs, n) else none
 | none => none
theorem getLab_no {l : Bs} {p : Int} (h : (atI (someL getPairL 8) [] l p).2.2 = false) : atI getLabL [] l p = ([], 0, false) := by
 unfold atI at *
 split
 ·rfl
 ·rename_i hp
  rw [if_neg hp] at h
  unfold getLabL
  cases hg : someL getPairL 8 (l.drop p.toNat) with
  | none => rfl
  | some x => rw [hg] at h; cases h
theorem getLab_yes {l : Bs} {p : Int} {xs : List PairL} {n : Int} (h : atI (someL getPairL 8) [] l p = (xs, n, true)) : atI getLabL [] l p = if rightLab xs = true then (xs, n, true) else ([], 0, false) := by
 unfold atI at *
 split
 ·rename_i hp
  rw [if_pos hp] at h
  injection h with _ h; injection h with _ h; cases h
 ·rename_i hp
  rw [if_neg hp] at h
  unfold getLabL
  cases hg : someL getPairL 8 (l.drop p.toNat) with
  | none => rw [hg] at h; injection h with _ h; injection h with _ h; cases h
  | some x =>
   obtain ⟨ys, m⟩ := x
   rw [hg] at h
   injection h with e1 h
   injection h with e2 _
   subst e1 e2
   simp only
   by_cases hr : rightLab ys = true
   ·rw [if_pos hr, if_pos hr]
   ·rw [if_neg hr, if_neg hr]
end Go.Dm
namespace Go.Proofs.YtefjdmjkofaajaaGreatDoor
open Go.RowKit Go.Dm

set_option maxHeartbeats 4000000 in
set_option maxRecDepth 100000 in
theorem lgetO_w (s : ByteArray) (p : Int) (w : World) (hs : s.size ≤ 281474976710656) (ht : Tabs w) :
  Calls Tryz.prog 85 #[.string s, .int .i64 p] w fun e w' => ∃ r l n b, e = .returned (.tuple #[r, .int .i64 n, .bool b]) ∧ Pairs w' r l ∧ FitP l ∧ l.length ≤ 8 ∧ atI getLabL [] s.data.toList p = (labL l, n, b) ∧ (∀ c, r.ownBlock = some c → w.heap.size ≤ c) ∧ Ext w w' := by
 have C := lsomeO_w s p w hs
 have HN := getLab_no (l := s.data.toList) (p := p)
 have HY := fun xs n => getLab_yes (l := s.data.toList) (p := p) (xs := xs) (n := n)
 generalize atI (someL getPairL 8) [] s.data.toList p = T at C HN HY
 generalize atI getLabL [] s.data.toList p = G at HN HY
 replace HN := Lib.hid HN
 replace HY := Lib.hid HY
 go_enter Tryz.func85, Tryz.ntmps85
 go_wp2_with fail
 refine C.mono ?_; rintro e w1 ⟨r, l, n, b, rfl, hx, hF, h8l, rfl, hO, h1⟩
 clear C
 cases b with
 | false =>
  go_wp2_with fail
  refine bodyPost_ret (results3 rfl _ _ _) rfl ?_
  exact ⟨_, [], 0, false, rfl, Pairs.nil _, FitP.nil, by simp, (by first | exact HN.out rfl | exact HN.out trivial), (fun c h => by cases h), h1⟩
 | true =>
  obtain ⟨q, cap, rfl, hlc, hcm⟩ := hx.shape
  have hlm : l.length ≤ 35184372088832 := by omega
  have CR := lright_w l _ w1 hlm hF hx (ht.ext h1)
  replace HY := HY.out (labL l) n rfl
  cases hR : rightLab (labL l) with
  | false =>
   rw [hR] at CR HY
   rw [if_neg (by decide)] at HY
   clear hR
   replace HY := Lib.hid HY
   go_wp2_with fail
   refine CR.mono ?_; rintro e w2 ⟨rfl, h2⟩
   go_wp2_with fail
   refine bodyPost_ret (results3 rfl _ _ _) rfl ?_
   exact ⟨_, [], 0, false, rfl, Pairs.nil _, FitP.nil, by simp, HY.out, (fun c h => by cases h), h1.trans h2⟩
  | true =>
   have h8 := (rightLab_iff.1 hR).1
   rw [labL_len] at h8
   rw [hR] at CR HY
   rw [if_pos rfl] at HY
   clear hR
   replace HY := Lib.hid HY
   go_wp2_with fail
   refine CR.mono ?_; rintro e w2 ⟨rfl, h2⟩
   go_wp2_with fail
   refine bodyPost_ret (results3 rfl _ _ _) rfl ?_
   exact ⟨_, l, n, true, rfl, hx.ext h2, hF, h8, HY.out, hO, h1.trans h2⟩

end Go.Proofs.YtefjdmjkofaajaaGreatDoor

namespace Go.Dm
open Go Go.RowKit

/-- l begins with a. -/
def Begins (a l : Bs) : Prop := ∃ t, a ++ t = l

theorem begins_take {a l : Bs} : Begins a l ↔ a = l.take a.length ∧ a.length ≤ l.length := by
  constructor
  · rintro ⟨t, rfl⟩
    exact ⟨by rw [List.take_left], by rw [List.length_append]; omega⟩
  · rintro ⟨h1, h2⟩
    exact ⟨l.drop a.length, by conv => lhs; lhs; rw [h1]
                               exact List.take_append_drop _ _⟩

theorem begins_app {a b l : Bs} : Begins (a ++ b) l ↔ Begins a l ∧ Begins b (l.drop a.length) := by
  constructor
  · rintro ⟨t, rfl⟩
    exact ⟨⟨b ++ t, by simp⟩, ⟨t, by simp⟩⟩
  · rintro ⟨⟨t, rfl⟩, ⟨u, h⟩⟩
    rw [List.drop_left] at h
    exact ⟨u, by simp [h]⟩
theorem begins_nil (l : Bs) : Begins [] l := ⟨l, rfl⟩
theorem getL_begins {l : Bs} {u n : Nat} : getL l = some (u, n) ↔ U64 u ∧ n = (putL u).length ∧ Begins (putL u) l := by
  rw [getL_iff, begins_take]
  constructor
  · rintro ⟨h1, rfl, h3, h4⟩; exact ⟨h1, rfl, h3, h4⟩
  · rintro ⟨h1, rfl, h3, h4⟩; exact ⟨h1, rfl, h3, h4⟩
theorem getText_begins {most : Nat} {l t : Bs} {n : Nat} (hl : U64 l.length) : getTextL most l = some (t, n) ↔ t.length ≤ most ∧ n = (putT t).length ∧ Begins (putT t) l := by
  rw [getTextL_iff hl, begins_take]
  unfold putT
  constructor
  · rintro ⟨h1, rfl, h3, h4⟩; exact ⟨h1, rfl, h3, h4⟩
  · rintro ⟨h1, rfl, h3, h4⟩; exact ⟨h1, rfl, h3, h4⟩
theorem U64.drop {l : Bs} (h : U64 l.length) (k : Nat) : U64 (l.drop k).length := by
  rw [List.length_drop]; exact Nat.lt_of_le_of_lt (Nat.sub_le _ _) h

/-- A label's bytes. -/
def putPair (p : PairL) : Bs := putT p.1 ++ putT p.2
def fitPair (p : PairL) : Prop := p.1.length ≤ 32 ∧ p.2.length ≤ 32
theorem getPair_begins {l : Bs} {p : PairL} {n : Nat} (hl : U64 l.length) : getPairL l = some (p, n) ↔ fitPair p ∧ n = (putPair p).length ∧ Begins (putPair p) l := by
  unfold putPair fitPair
  rw [begins_app, List.length_append]
  constructor
  · intro h
    unfold getPairL at h
    cases h1 : getTextL 32 l with
    | none => rw [h1] at h; cases h
    | some x =>
      obtain ⟨k, i⟩ := x
      rw [h1] at h
      simp only at h
      cases h2 : getTextL 32 (l.drop i) with
      | none => rw [h2] at h; cases h
      | some y =>
        obtain ⟨v, j⟩ := y
        rw [h2] at h
        injection h with h
        injection h with e1 e2
        subst e1 e2
        obtain ⟨a1, rfl, a3⟩ := (getText_begins hl).1 h1
        obtain ⟨b1, rfl, b3⟩ := (getText_begins (hl.drop _)).1 h2
        exact ⟨⟨a1, b1⟩, rfl, a3, b3⟩
  · rintro ⟨⟨a1, b1⟩, rfl, a3, b3⟩
    unfold getPairL
    rw [(getText_begins hl).2 ⟨a1, rfl, a3⟩]
    simp only
    rw [(getText_begins (hl.drop _)).2 ⟨b1, rfl, b3⟩]

theorem putP_snoc (L : List PairL) (p : PairL) : putP (L ++ [p]) = putP L ++ putPair p := by simp [putP, putPair]

theorem reads_begins {l : Bs} {q : Nat} (hl : U64 l.length) : ∀ (i : Nat) (L : List PairL) (r : Nat), readsL getPairL l q i = some (L, r) ↔ L.length = i ∧ (∀ p ∈ L, fitPair p) ∧ r = q + (putP L).length ∧ Begins (putP L) (l.drop q)
  | 0, L, r => by
    constructor
    · intro h
      injection h with h
      injection h with h1 h2
      subst h1 h2
      exact ⟨rfl, (fun p hp => by simp at hp), rfl, begins_nil _⟩
    · rintro ⟨h1, _, h3, _⟩
      obtain rfl := List.length_eq_zero_iff.1 h1
      subst h3
      rfl
  | i + 1, L, r => by
    constructor
    · intro h
      rw [readsL] at h
      cases h1 : readsL getPairL l q i with
      | none => rw [h1] at h; cases h
      | some x =>
        obtain ⟨K, k⟩ := x
        rw [h1] at h
        simp only at h
        cases h2 : getPairL (l.drop k) with
        | none => rw [h2] at h; cases h
        | some y =>
          obtain ⟨p, m⟩ := y
          rw [h2] at h
          injection h with h
          injection h with e1 e2
          subst e1 e2
          obtain ⟨a1, a2, rfl, a4⟩ := (reads_begins hl i K k).1 h1
          obtain ⟨b1, rfl, b3⟩ := (getPair_begins (hl.drop _)).1 h2
          refine ⟨by simp [a1], fun x hx => ?_, by rw [putP_snoc, List.length_append]; omega, ?_⟩
          · rcases List.mem_append.1 hx with hx | hx
            · exact a2 x hx
            · rw [List.mem_singleton] at hx; subst hx; exact b1
          · rw [putP_snoc, begins_app, List.drop_drop]
            exact ⟨a4, b3⟩
    · rintro ⟨h1, h2, rfl, h4⟩
      rcases List.eq_nil_or_concat L with rfl | ⟨K, p, rfl⟩
      · simp at h1
      · rw [List.concat_eq_append] at *
        rw [putP_snoc, begins_app, List.drop_drop] at h4
        have hK := (reads_begins hl i K (q + (putP K).length)).2 ⟨by simpa using h1, fun x hx => h2 x (List.mem_append_left _ hx), rfl, h4.1⟩
        have hp := (getPair_begins (hl.drop _)).2 ⟨h2 p (by simp), rfl, h4.2⟩
        rw [readsL, hK]
        simp only [hp]
        rw [putP_snoc, List.length_append]
        simp [Nat.add_assoc]

theorem some_begins {l : Bs} {L : List PairL} {n : Nat} (hl : U64 l.length) : someL getPairL 8 l = some (L, n) ↔ L.length ≤ 8 ∧ (∀ p ∈ L, fitPair p) ∧ n = (putL L.length ++ putP L).length ∧ Begins (putL L.length ++ putP L) l := by
  rw [begins_app, List.length_append]
  constructor
  · intro h
    cases hg : getL l with
    | none => rw [someL_none hg] at h; cases h
    | some x =>
      obtain ⟨u, k⟩ := x
      rw [someL_some hg] at h
      split at h
      · rename_i hu
        obtain ⟨a1, rfl, a3⟩ := getL_begins.1 hg
        obtain ⟨rfl, b2, rfl, b4⟩ := (reads_begins hl _ _ _).1 h
        exact ⟨hu, b2, rfl, a3, b4⟩
      · cases h
  · rintro ⟨h1, h2, rfl, h4, h5⟩
    have hg := getL_begins.2 ⟨show U64 L.length from Nat.lt_of_le_of_lt h1 (by decide), rfl, h4⟩
    rw [someL_some hg, if_pos h1]
    exact (reads_begins hl _ _ _).2 ⟨rfl, h2, rfl, h5⟩

theorem right_fits {L : List PairL} (h : rightLab L = true) : L.length ≤ 8 ∧ ∀ p ∈ L, fitPair p := by
  obtain ⟨h1, h2⟩ := rightLab_iff.1 h
  refine ⟨h1, fun p hp => ?_⟩
  obtain ⟨k, hk, rfl⟩ := List.getElem_of_mem hp
  have := h2 k hk
  have he : plAt L k = L[k] := by simp [plAt, hk]
  unfold okLab at this
  rw [he, Bool.and_eq_true, Bool.and_eq_true] at this
  exact ⟨right_len this.1, right_len this.2.1⟩

/-- What is got is right, and what was put; what was put is got. -/
theorem getLab_begins {l : Bs} {L : List PairL} {n : Nat} (hl : U64 l.length) : getLabL l = some (L, n) ↔ rightLab L = true ∧ n = (putLab L).length ∧ Begins (putLab L) l := by
  constructor
  · intro h
    unfold getLabL at h
    cases hg : someL getPairL 8 l with
    | none => rw [hg] at h; cases h
    | some x =>
      obtain ⟨K, k⟩ := x
      rw [hg] at h
      simp only at h
      split at h
      · rename_i hr
        injection h with h
        injection h with e1 e2
        subst e1 e2
        obtain ⟨_, _, rfl, h4⟩ := (some_begins hl).1 hg
        unfold putLab
        rw [if_pos hr]
        exact ⟨hr, rfl, h4⟩
      · cases h
  · rintro ⟨hr, rfl, h3⟩
    unfold putLab at *
    rw [if_pos hr] at *
    obtain ⟨f1, f2⟩ := right_fits hr
    have hg := (some_begins hl).2 ⟨f1, f2, rfl, h3⟩
    unfold getLabL
    rw [hg]
    simp only
    rw [if_pos hr]

end Go.Dm

