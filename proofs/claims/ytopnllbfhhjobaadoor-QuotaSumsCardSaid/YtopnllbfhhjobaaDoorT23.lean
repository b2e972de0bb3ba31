/- Texts one behind the other: Chapter 10: the walk of QuotaRight; A map of amounts by path. -/
import Derived.Test.YtopnllbfhhjobaaDoorT22
import Derived.Maps.Own
import Derived.Maps.OwnSet
import Derived.Maps.Views
namespace Go.Dm
open Go Go.RowKit
theorem chOne_one (c : ChQ) : ∀ u ∈ chOne c, u.oneCell' = true := fun u hu => by
  simp only [chOne, List.mem_cons, List.not_mem_nil, or_false] at hu
  rcases hu with rfl | rfl | rfl | rfl | rfl | rfl <;> rfl
theorem chCells_one (L : List ChQ) : ∀ u ∈ chCells L, u.oneCell' = true := fun u hu => by
  obtain ⟨c, _, hu⟩ := List.mem_flatMap.1 hu
  exact chOne_one c u hu
theorem chCells_app (a b : List ChQ) : chCells (a ++ b) = chCells a ++ chCells b := by simp [chCells]
theorem chCells_take (R : List ChQ) (k : Nat) (hk : k ≤ R.length) : (chCells R).take (k * 6) = chCells (R.take k) := by
  have e : R = R.take k ++ R.drop k := (List.take_append_drop k R).symm
  conv => lhs; rw [e]
  rw [chCells_app, List.take_append_of_le_length (by rw [chCells_len, List.length_take]; omega), List.take_of_length_le (by rw [chCells_len, List.length_take]; omega)]
theorem chCells_drop (R : List ChQ) (k : Nat) (hk : k ≤ R.length) : (chCells R).drop (k * 6) = chCells (R.drop k) := by
  have e : R = R.take k ++ R.drop k := (List.take_append_drop k R).symm
  conv => lhs; rw [e]
  rw [chCells_app, List.drop_append_of_le_length (by rw [chCells_len, List.length_take]; omega), List.drop_eq_nil_of_le (by rw [chCells_len, List.length_take]; omega), List.nil_append]

/-- What a charge adds, at an entry, of a kind. -/
def conU (c : ChQ) (k i : Nat) : Nat := if k ∈ abvK (c.1.1 % 8) then vG (amtC c) i else 0
def sumU (L : List ChQ) (k i : Nat) : Nat := (L.map fun c => conU c k i).sum
/-- What lives is what is used. -/
structure InvR (S : StQ) (L : List ChQ) : Prop where
  ok : OkS S
  here : ∀ c ∈ L, ∀ k ∈ abvK (c.1.1 % 8), S k ≠ none
  use : ∀ k, k < 8 → ∀ i, i < 4 → uS S k i = sumU L k i
def chiF (k : Nat) (f : Nat → Nat) : Nat := match k with
  | 0 => f 1 + f 5 + f 7
  | 1 => f 2 + f 4
  | 2 => f 3
  | 5 => f 6
  | _ => 0
theorem chi_eq (k i : Nat) (S : StQ) : chiK k i S = chiF k fun j => uS S j i := by unfold chiK chiF; rfl
theorem chiF_one : ∀ p, p < 8 → ∀ k, k < 8 → chiF k (fun j => if j ∈ abvK p then 1 else 0) ≤ if k ∈ abvK p then 1 else 0 := by decide
theorem chiF_con (c : ChQ) {k : Nat} (hk : k < 8) (i : Nat) : chiF k (fun j => conU c j i) ≤ conU c k i := by
  have h := chiF_one (c.1.1 % 8) (by omega) k hk
  have e : ∀ j, conU c j i = (if j ∈ abvK (c.1.1 % 8) then 1 else 0) * vG (amtC c) i := fun j => by unfold conU; split <;> simp
  have e2 : ∀ (f : Nat → Nat) (a : Nat), chiF k (fun j => f j * a) = chiF k f * a := fun f a => by unfold chiF; split <;> simp [Nat.add_mul]
  simp only [e]
  rw [e2]
  exact Nat.mul_le_mul_right _ h
theorem chiF_add (k : Nat) (f g : Nat → Nat) : chiF k (fun j => f j + g j) = chiF k f + chiF k g := by unfold chiF; split <;> dsimp only <;> omega
theorem chiF_sum : ∀ (L : List ChQ) {k : Nat} (_ : k < 8) (i : Nat), chiF k (fun j => sumU L j i) ≤ sumU L k i
  | [], k, _, i => by
    have : chiF k (fun j => sumU [] j i) = 0 := by unfold chiF sumU; split <;> rfl
    omega
  | c :: L, k, hk, i => by
    have e : ∀ j, sumU (c :: L) j i = conU c j i + sumU L j i := fun j => by simp [sumU]
    simp only [e]
    rw [chiF_add]
    exact Nat.add_le_add (chiF_con c hk i) (chiF_sum L hk i)
theorem chiF_congr {k : Nat} {f g : Nat → Nat} (h : ∀ j, j < 8 → f j = g j) : chiF k f = chiF k g := by
  unfold chiF
  split <;> simp only [h 1 (by omega), h 2 (by omega), h 3 (by omega), h 4 (by omega), h 5 (by omega), h 6 (by omega), h 7 (by omega)]
theorem invR_right {S : StQ} {L : List ChQ} (h : InvR S L) : RightS S := fun k hk i hi => by
  rw [chi_eq, chiF_congr (g := fun j => sumU L j i) fun j hj => h.use j hj i hi, h.use k hk i hi]
  exact chiF_sum L hk i
theorem setQ_use (S : StQ) (p : Nat) (lim : Vc) (k i : Nat) : uS (setQ S p lim).1 k i = uS S k i := by
  unfold setQ
  split
  · rfl
  · cases e : S p with
    | some x =>
      simp only
      split
      · unfold uS updQ
        by_cases hk : k = p
        · subst hk; simp [e]
        · simp [hk]
      · rfl
    | none =>
      unfold uS updQ
      by_cases hk : k = p
      · subst hk; simp [e, vG_noV]
      · simp [hk]
theorem foldL_use : ∀ (l : List ChQ) (S : StQ) (k i : Nat), uS (l.foldl stepL S) k i = uS S k i
  | [], _, _, _ => rfl
  | c :: l, S, k, i => by rw [List.foldl_cons, foldL_use l]; exact setQ_use S _ _ k i
theorem invR_init (l : List ChQ) : InvR (growS l []) [] := by
  refine ⟨growS_ok l [], fun _ hc => (nomatch hc), fun k _ i _ => ?_⟩
  show uS ((l.take 24).foldl stepL S0) k i = 0
  rw [foldL_use]
  unfold uS S0
  by_cases h : k = 0
  · simp [h, vG_noV]
  · simp [h]
theorem vadd_at4 (a b : Vc) {i : Nat} (hi : i < 4) : vG (vadd a b) i = vG a i + vG b i := by
  rw [vadd_eta]
  match i, hi with
  | 0, _ => rfl
  | 1, _ => rfl
  | 2, _ => rfl
  | 3, _ => rfl
theorem vsub_at4 (a b : Vc) {i : Nat} (hi : i < 4) : vG (vsub a b) i = vG a i - vG b i := by
  rw [vsub_eta]
  match i, hi with
  | 0, _ => rfl
  | 1, _ => rfl
  | 2, _ => rfl
  | 3, _ => rfl
theorem uS_some {S : StQ} {k : Nat} {x : Vc × Vc} (h : S k = some x) (i : Nat) : uS S k i = vG x.2 i := by unfold uS; rw [h]
theorem invR_charge {S : StQ} {L : List ChQ} {c : ChQ} (h : InvR S L) (h0 : (chargeQ S (chgS (amtC c)) (c.1.1 % 8)).2 = 0) : InvR (chargeQ S (chgS (amtC c)) (c.1.1 % 8)).1 (L ++ [c]) := by
  obtain ⟨h1, h2, h3⟩ := chargeQ_ok h0
  refine ⟨h.ok.charge _ _, fun c' hc' k hk => ?_, fun k hk i hi => ?_⟩
  · rw [h3]
    rcases List.mem_append.1 hc' with hc' | hc'
    · exact fun e => h.here c' hc' k hk (mapQ_none.1 e)
    · rw [List.mem_singleton.1 hc'] at hk
      exact fun e => h1 k hk (mapQ_none.1 e)
  · have e : sumU (L ++ [c]) k i = sumU L k i + conU c k i := by simp [sumU]
    rw [e, ← h.use k hk i hi, h3]
    cases hx : S k with
    | none =>
      have hk2 : k ∉ abvK (c.1.1 % 8) := fun hm => h1 k hm hx
      unfold uS conU
      rw [mapQ_none.2 hx, hx, if_neg hk2]
    | some x =>
      rw [uS_some (mapQ_at hx), uS_some hx]
      unfold conU
      split
      · rename_i hm
        obtain ⟨_, _, a3⟩ := chgS_zero (h2 k hm x hx)
        simp only [a3]
        exact vadd_at4 _ _ hi
      · rfl
theorem sumU_erase (L : List ChQ) {j : Nat} (hj : j < L.length) (k i : Nat) : sumU (L.take j ++ L.drop (j + 1)) k i + conU (chAt L j) k i = sumU L k i := by
  have e : L = L.take j ++ (chAt L j :: L.drop (j + 1)) := by
    conv => lhs; rw [← List.take_append_drop j L, List.drop_eq_getElem_cons hj, ← chAt_eq hj]
  conv => rhs; rw [e]
  simp only [sumU, List.map_append, List.sum_append, List.map_cons, List.sum_cons]
  omega
theorem invR_refund {S : StQ} {L : List ChQ} (h : InvR S L) {j : Nat} (hj : j < L.length) :
    (chargeQ S (rfdS (amtC (chAt L j))) ((chAt L j).1.1 % 8)).2 = 0 ∧ InvR (chargeQ S (rfdS (amtC (chAt L j))) ((chAt L j).1.1 % 8)).1 (L.take j ++ L.drop (j + 1)) := by
  have hm : chAt L j ∈ L := by rw [chAt_eq hj]; exact List.getElem_mem hj
  have hf : ∀ k ∈ abvK ((chAt L j).1.1 % 8), ∀ x, S k = some x → vfits (amtC (chAt L j)) x.2 = true := fun k hk x hx => by
    rw [vfits_all]
    intro i hi
    have h1 := h.use k (abvK_lt _ (by omega) k hk) i hi
    rw [uS_some hx] at h1
    have h2 := sumU_erase L hj k i
    have h3 : conU (chAt L j) k i = vG (amtC (chAt L j)) i := by unfold conU; rw [if_pos hk]
    omega
  have hmk := chargeQ_mk (S := S) (h := rfdS (amtC (chAt L j))) (p := (chAt L j).1.1 % 8) (h.here _ hm) (fun k hk x hx => by rw [rfdS_ok (hf k hk x hx)])
  refine ⟨by rw [hmk], h.ok.refund _ _, fun c' hc' k hk => ?_, fun k hk i hi => ?_⟩
  · rw [hmk]
    have hc2 : c' ∈ L := by
      rcases List.mem_append.1 hc' with hc' | hc'
      · exact List.mem_of_mem_take hc'
      · exact List.mem_of_mem_drop hc'
    exact fun e => h.here c' hc2 k hk (mapQ_none.1 e)
  · have h2 := sumU_erase L hj k i
    have h1 := h.use k hk i hi
    rw [hmk]
    show uS (mapQ S (rfdS (amtC (chAt L j))) (abvK ((chAt L j).1.1 % 8))) k i = _
    cases hx : S k with
    | none =>
      have hk2 : k ∉ abvK ((chAt L j).1.1 % 8) := fun hm2 => h.here _ hm k hm2 hx
      have h3 : conU (chAt L j) k i = 0 := by unfold conU; rw [if_neg hk2]
      have h4 : uS S k i = 0 := by unfold uS; rw [hx]
      have h5 : uS (mapQ S (rfdS (amtC (chAt L j))) (abvK ((chAt L j).1.1 % 8))) k i = 0 := by unfold uS; rw [mapQ_none.2 hx]
      omega
    | some x =>
      rw [uS_some (mapQ_at hx)]
      rw [uS_some hx] at h1
      by_cases hk2 : k ∈ abvK ((chAt L j).1.1 % 8)
      · have h3 : conU (chAt L j) k i = vG (amtC (chAt L j)) i := by unfold conU; rw [if_pos hk2]
        rw [if_pos hk2, rfdS_ok (hf k hk2 x hx)]
        simp only
        rw [vsub_at4 _ _ hi]
        omega
      · have h3 : conU (chAt L j) k i = 0 := by unfold conU; rw [if_neg hk2]
        rw [if_neg hk2]
        simp only
        omega
end Go.Dm
namespace Go.Proofs.YtopnllbfhhjobaaDoor
open Go.RowKit Go.Dm
theorem Tryd.slCh : SlT Tryd.prog 22 28 6 6 := SlT.mk' Tryd.underlying22 (by kernel_rfl) (by decide) (by decide)
set_option maxHeartbeats 8000000 in
set_option maxRecDepth 100000 in
theorem quotaRight_w (l m : List ChQ) (vl vm : Value) (w : World) (hl : ∀ c ∈ l, OkC c) (hxl : Chs w vl l) (hm : ∀ c ∈ m, OkC c) (hxm : Chs w vm m) (ht : Vars w) :
    Calls Tryd.prog 3 #[vl, vm] w fun e w' => e = .returned (.bool true) ∧ Ext w w' := by
  obtain ⟨ql, capl, rfl, _, _⟩ := hxl.shape
  obtain ⟨qm, capm, rfl, _, _⟩ := hxm.shape
  have CE := fun U (h : Ext w U) => qexamples_w U (ht.ext h)
  have CG := fun U (h : Ext w U) => qgrown_w l [] _ (.slice none 0 0) U hl (fun c hc => by cases hc) (hxl.ext h) (Sl.nil U 6) (ht.ext h)
  have CA := fun c (h : OkC c) U => qamount_w c h U
  have CP := fun U => qpaths_w U
  have CR := fun S (hS : OkS S) (hr : RightS S) v U hx (h : Ext w U) => right_c S hS v U hx (ht.ext h)
  have CC := fun S (hS : OkS S) v k (hk : k < 8) c U hx (h : Ext w U) => chargeO_c S hS v hk (amtC c) (amtC_ok c) U hx (ht.ext h)
  have CF := fun S (hS : OkS S) v k (hk : k < 8) c U hx (h : Ext w U) => refund_c S hS v hk (amtC c) (amtC_ok c) U hx (ht.ext h)
  have hI0 := invR_init l
  generalize growS l [] = G at *
  unfold vVal vF at CA CC CF
  unfold chVal at CA
  replace CE := Lib.hid CE
  replace CG := Lib.hid CG
  replace CA := Lib.hid CA
  replace CP := Lib.hid CP
  replace CR := Lib.hid CR
  replace CC := Lib.hid CC
  replace CF := Lib.hid CF
  go_enter Tryd.func3, Tryd.ntmps3
  go_wp2_with fail
  refine (CE.out _ (Ext.refl _)).mono ?_; rintro e w1 ⟨rfl, h1⟩
  go_wp2_with fail
  refine (CG.out _ h1).mono ?_; rintro e w2 ⟨v0, rfl, hx0, h2⟩
  replace h2 := h1.trans h2
  clear h1
  go_wp2
  go_loopw [6, 7, 8, 9, 10, 11, 12, 13] (fun t lv i _ _ _ _ _ wr => ∃ (n : Nat) (S : StQ) (L : List ChQ), n ≤ m.length ∧ n ≤ 24 ∧ i = .int .i64 n ∧ L.length ≤ n ∧ Ext w wr ∧ Tree wr t (conc S) ∧ wr.ownsRow w.heap.size 28 6 lv L.length (chCells L) ∧ (∀ c ∈ L, OkC c) ∧ Hid (InvR S L)) (fun _ _ i _ _ _ _ _ _ => 24 - (intOf i).toNat)
  case atStart => exact ⟨0, G, [], by omega, by omega, rfl, by simp, h2, hx0, World.ownsRow_nil _ _ _ _, fun _ hc => (nomatch hc), hI0⟩
  case round =>
    obtain ⟨n, S, L, hn, hn24, rfl, hLn, hb, hx, ho, hLc, HI⟩ := hrel
    have hS := HI.out.ok
    have CR1 := fun v U hx h => CR.out S hS (invR_right HI.out) v U hx h
    have hrt : rightQ (conc S) = true := (right_conc hS).2 (invR_right HI.out)
    rw [hrt] at CR1
    clear hrt
    by_cases hlt : n < m.length
    case neg =>
      replace CR1 := Lib.hid CR1
      go_wp2_with fail
      refine (CR1.out _ _ hx hb).mono ?_; rintro e w3 ⟨rfl, h3⟩
      go_wp2
      go_ret
      exact ⟨rfl, hb.trans h3⟩
    by_cases hlt2 : n < 24
    case neg =>
      replace CR1 := Lib.hid CR1
      go_wp2_with fail
      refine (CR1.out _ _ hx hb).mono ?_; rintro e w3 ⟨rfl, h3⟩
      go_wp2
      go_ret
      exact ⟨rfl, hb.trans h3⟩
    replace CR1 := Lib.hid CR1
    obtain ⟨p5, cap5, rfl, hLcap, hcap5⟩ := (show Chs wr _ L from Sl.of_owns ho).shape
    go_wp2_with fail
    refine (CR1.out _ _ hx hb).mono ?_; rintro e w3 ⟨rfl, h3⟩
    replace hb := hb.trans h3
    replace hx := hx.ext h3
    replace ho := Ext.row ho h3
    clear h3 CR1
    obtain ⟨mb, mo, rfl, hmbl, hcs⟩ := (hxm.ext hb).at hlt
    have hok := hm _ (show chAt m n ∈ m by rw [chAt_eq hlt]; exact List.getElem_mem hlt)
    have hmb2 : ∀ U, Ext w3 U → mb < U.heap.size := fun U h => Nat.lt_of_lt_of_le hmbl h.size
    have CC1 := fun v U hx h => CC.out S hS v ((chAt m n).1.1 % 8) (by omega) (chAt m n) U hx h
    have CA1 := fun U => CA.out (chAt m n) hok U
    have hpk : (chAt m n).1.1 % 8 < 8 := by omega
    have hgo := fun h => invR_charge (c := chAt m n) HI.out h
    have hst := chargeQ_err (S := S) (h := chgS (amtC (chAt m n))) (p := (chAt m n).1.1 % 8)
    have hap : ∀ U, Ext w3 U → Sl (U.alloc (.cells #[.int .u8 ((chAt m n).1.1 : Nat), .int .u8 ((chAt m n).1.2.1 : Nat), .int .u8 ((chAt m n).1.2.2.1 : Nat), .int .u8 ((chAt m n).1.2.2.2.1 : Nat), .int .u8 ((chAt m n).1.2.2.2.2 : Nat), .bool (chAt m n).2] 28)) 6 (.slice (some ⟨U.heap.size, 0, none⟩) 1 1) 1 (chOne (chAt m n)) := fun U _ =>
      Sl.lit U 28 6 1 #[.int .u8 ((chAt m n).1.1 : Nat), .int .u8 ((chAt m n).1.2.1 : Nat), .int .u8 ((chAt m n).1.2.2.1 : Nat), .int .u8 ((chAt m n).1.2.2.2.1 : Nat), .int .u8 ((chAt m n).1.2.2.2.2 : Nat), .bool (chAt m n).2] rfl (by simp [maxLen])
    have hone := chOne_one (chAt m n)
    obtain ⟨⟨R, eno⟩, hR⟩ : ∃ r, chargeQ S (chgS (amtC (chAt m n))) ((chAt m n).1.1 % 8) = r := ⟨_, rfl⟩
    rw [hR] at CC1 hgo hst
    simp only at CC1 hgo hst
    generalize vG (amtC (chAt m n)) = A at *
    obtain ⟨K, hK⟩ : ∃ K, chAt m n = K := ⟨_, rfl⟩
    rw [hK] at CC1 CA1 hcs hok hpk hgo hap hone
    obtain ⟨⟨x, a, b, g, d⟩, bk⟩ := K
    simp only at CC1 CA1 hpk hap hone
    obtain ⟨hc0, hc1, hc2, hc3, hc4⟩ := id hok
    simp only at hc0 hc1 hc2 hc3 hc4
    clear hR
    have hx8 : ((x : Int) % 8) = ((x % 8 : Nat) : Int) := by omega
    have hx8' : ((x : Int).tmod 8) = ((x % 8 : Nat) : Int) := by rw [Int.tmod_eq_emod_of_nonneg (by omega)]; exact hx8
    replace CC1 := Lib.hid CC1
    replace CA1 := Lib.hid CA1
    replace hgo := Lib.hid hgo
    replace hst := Lib.hid hst
    replace hap := Lib.hid hap
    have hcs2 : ∀ U, Ext w3 U → ∀ j, j < 6 → U.cell? ⟨mb, mo + n * 6 + j, none⟩ = (chOne ((x, a, b, g, d), bk))[j]? := fun U hU j hj => by rw [hU.cell (by exact hmbl)]; exact hcs j hj
    replace hcs2 := Lib.hid hcs2
    replace hK := Lib.hid hK
    by_cases hbk : bk = true ∧ 0 < L.length
    · obtain ⟨rfl, hL0⟩ := hbk
      have hL0i : (0 : Int) < (L.length : Int) := by omega
      obtain ⟨j, hjn, hjl⟩ : ∃ j : Nat, a % L.length = j ∧ j < L.length := ⟨_, rfl, Nat.mod_lt _ hL0⟩
      have hrem : (a : Int) % (L.length : Int) = (j : Int) := by rw [← hjn]; omega
      have hrem' : (a : Int).tmod (L.length : Int) = (j : Int) := by rw [Int.tmod_eq_emod_of_nonneg (by omega)]; exact hrem
      have hLz : ¬ (L.length : Int) = 0 := by omega
      clear hjn CC1 hgo hst hap hx8 hx8' hpk
      have hchL : Chs w3 (.slice p5 L.length cap5) L := Sl.of_owns ho
      obtain ⟨lb, lo, rfl, hlbl, hds⟩ := hchL.at hjl
      have hokj := hLc _ (show chAt L j ∈ L by rw [chAt_eq hjl]; exact List.getElem_mem hjl)
      have CF1 := fun v U hx h => CF.out S hS v ((chAt L j).1.1 % 8) (by omega) (chAt L j) U hx h
      have CA2 := fun U => CA.out (chAt L j) hokj U
      have hpk : (chAt L j).1.1 % 8 < 8 := by omega
      obtain ⟨hr0, hr1⟩ := invR_refund HI.out hjl
      obtain ⟨⟨R2, eno2⟩, hR⟩ : ∃ r, chargeQ S (rfdS (amtC (chAt L j))) ((chAt L j).1.1 % 8) = r := ⟨_, rfl⟩
      rw [hR] at CF1 hr0 hr1
      simp only at CF1 hr0 hr1
      subst hr0
      generalize vG (amtC (chAt L j)) = A2 at *
      obtain ⟨⟨⟨x', a', b', g', d'⟩, bk'⟩, hK2⟩ : ∃ K, chAt L j = K := ⟨_, rfl⟩
      rw [hK2] at CF1 CA2 hds hpk
      simp only at CF1 CA2 hpk
      clear hR hK2 hokj
      have hx8 : ((x' : Int) % 8) = ((x' % 8 : Nat) : Int) := by omega
      have hx8' : ((x' : Int).tmod 8) = ((x' % 8 : Nat) : Int) := by rw [Int.tmod_eq_emod_of_nonneg (by omega)]; exact hx8
      generalize x' % 8 = pk at *
      replace CF1 := Lib.hid CF1
      replace CA2 := Lib.hid CA2
      have hI2 := Lib.hid hr1
      clear hr1
      have hs1 := fun w => run_slice_high (P := Tryd.prog) 22 28 6 Tryd.slCh.ht Tryd.slCh.hs (some ⟨lb, lo, none⟩) L.length cap5 j (by omega) w
      obtain ⟨j1, hj1e⟩ : ∃ j1 : Nat, j1 = j + 1 := ⟨_, rfl⟩
      have hj1 : (j : Int) + 1 = (j1 : Int) := by omega
      have hj1l : j1 ≤ L.length := by omega
      have hs2 := fun w => run_slice_low (P := Tryd.prog) 22 28 6 Tryd.slCh.ht Tryd.slCh.hs (some ⟨lb, lo, none⟩) L.length cap5 j1 (by omega) w
      have hT1 := hchL.take (k := j) (by omega)
      have hT2 := hchL.drop (k := j1) (by omega)
      replace hj1e := Lib.hid hj1e
      have c0 := hcs 0 (by omega)
      have c1 := hcs 1 (by omega)
      have c2 := hcs 2 (by omega)
      have c3 := hcs 3 (by omega)
      have c4 := hcs 4 (by omega)
      have c5 := hcs 5 (by omega)
      simp only [chOne, List.getElem?_cons_zero, List.getElem?_cons_succ, Nat.add_zero] at c0 c1 c2 c3 c4 c5
      clear hcs
      have d0 := hds 0 (by omega)
      have d1 := hds 1 (by omega)
      have d2 := hds 2 (by omega)
      have d3 := hds 3 (by omega)
      have d4 := hds 4 (by omega)
      have d5 := hds 5 (by omega)
      simp only [chOne, List.getElem?_cons_zero, List.getElem?_cons_succ, Nat.add_zero] at d0 d1 d2 d3 d4 d5
      clear hds
      go_wp2_with fail
      try simp only [Act.put, List.setIfInBounds_toArray, List.set_cons_succ, List.set_cons_zero]
      refine Dm.wp_region_ext 21 (Dm.bits 21 0) (Ext.refl w3) (by kernel_rfl) (by kernel_rfl) (by kernel_rfl) ?_
      refine Dm.wpE_take (i := 0) (listed' := (Dm.bits 21 1)) (by kernel_rfl) (by kernel_rfl) rfl (fun _ _ _ _ h => h) ?_; apply Exists.intro; refine And.intro (fun x => ?_) ?_
      · go_big_quiet_step (((go_at_call 14; exact Calls.quietE (CA2.out _)))); exact wpQuiet_nil rfl
      refine Dm.wpE_take (i := 2) (listed' := (Dm.bits 21 5)) (by kernel_rfl) (by kernel_rfl) rfl (fun _ _ _ _ h => h) ?_; apply Exists.intro; refine And.intro (fun x => ?_) ?_
      · go_big_quiet_step (((go_at_call 14; exact Calls.quietE (CA2.out _)))); exact wpQuiet_nil rfl
      refine Dm.wpE_take (i := 3) (listed' := (Dm.bits 21 13)) (by kernel_rfl) (by kernel_rfl) rfl (fun _ _ _ _ h => h) ?_; apply Exists.intro; refine And.intro (fun x => ?_) ?_
      · go_big_quiet_step (((go_at_call 14; exact Calls.quietE (CA2.out _)))); exact wpQuiet_nil rfl
      refine Dm.wpE_take (i := 4) (listed' := (Dm.bits 21 29)) (by kernel_rfl) (by kernel_rfl) rfl (fun _ _ _ _ h => h) ?_; apply Exists.intro; refine And.intro (fun x => ?_) ?_
      · go_big_quiet_step (((go_at_call 14; exact Calls.quietE (CA2.out _)))); exact wpQuiet_nil rfl
      refine Dm.wpE_take (i := 5) (listed' := (Dm.bits 21 61)) (by kernel_rfl) (by kernel_rfl) rfl (fun _ _ _ _ h => h) ?_; apply Exists.intro; refine And.intro (fun x => ?_) ?_
      · go_big_quiet_step (((go_at_call 14; exact Calls.quietE (CA2.out _)))); exact wpQuiet_nil rfl
      refine Dm.wpE_take (i := 6) (listed' := (Dm.bits 21 125)) (by kernel_rfl) (by kernel_rfl) rfl (fun _ _ _ _ h => h) ?_; apply Exists.intro; refine And.intro (fun x => ?_) ?_
      · go_big_quiet_step (((go_at_call 14; exact Calls.quietE (CA2.out _)))); exact wpQuiet_nil rfl
      refine Dm.wpE_take (i := 7) (listed' := (Dm.bits 21 253)) (by kernel_rfl) (by kernel_rfl) rfl (fun _ _ _ _ h => h) ?_; apply Exists.intro; refine And.intro (fun x => ?_) ?_
      · go_big_quiet_step (((go_at_call 14; exact Calls.quietE (CA2.out _)))); exact wpQuiet_nil rfl
      refine Dm.wpE_take (i := 10) (listed' := (Dm.bits 21 1277)) (by kernel_rfl) (by kernel_rfl) rfl (fun _ _ _ _ h => h) ?_; apply Exists.intro; refine And.intro (fun x => ?_) ?_
      · go_big_quiet_step (((go_at_call 14; exact Calls.quietE (CA2.out _)))); exact wpQuiet_nil rfl
      refine Dm.wpE_take (i := 11) (listed' := (Dm.bits 21 3325)) (by kernel_rfl) (by kernel_rfl) rfl (fun _ _ _ _ h => h) ?_; apply Exists.intro; refine And.intro (fun x => ?_) ?_
      · go_big_quiet_step (((go_at_call 14; exact Calls.quietE (CA2.out _)))); exact wpQuiet_nil rfl
      refine Dm.wpE_take (i := 12) (listed' := (Dm.bits 21 7421)) (by kernel_rfl) (by kernel_rfl) rfl (fun _ _ _ _ h => h) ?_; apply Exists.intro; refine And.intro (fun x => ?_) ?_
      · go_big_quiet_step (((go_at_call 14; exact Calls.quietE (CA2.out _)))); exact wpQuiet_nil rfl
      refine Dm.wpE_take (i := 13) (listed' := (Dm.bits 21 15613)) (by kernel_rfl) (by kernel_rfl) rfl (fun _ _ _ _ h => h) ?_; apply Exists.intro; refine And.intro (fun x => ?_) ?_
      · go_big_quiet_step (((go_at_call 14; exact Calls.quietE (CA2.out _)))); exact wpQuiet_nil rfl
      refine Dm.wpE_one (i := 1) (listed' := (Dm.bits 21 15615)) (by kernel_rfl) (by kernel_rfl) rfl (Ext.refl w3) (fun w1a hx1a => ?_)
      have hX1a := Ext.trans (Ext.refl w3) hx1a
      go_wp2_with (go_at_call 13; go_must (refine (CP.out w1a).mono ?_; rintro e w1b ⟨vp, rfl, hPs, hs1⟩))
      obtain ⟨pp, pcap, rfl, _, _⟩ := hPs.shape
      obtain ⟨pb, po, rfl, hpbl, hpc⟩ := hPs.at (k := pk) hpk
      have hAt : AtC pb (po + pk) (.string (pth pk)) w1b := ⟨hpbl, hpc⟩
      clear hPs hpc hpbl
      have hpkl : pk < pathsB.length := hpk
      have hX1b := Ext.trans hX1a hs1
      try simp only [Exit.then, Act.put]
      refine Dm.wpE_take (i := 8) (listed' := (Dm.bits 21 15871)) (by kernel_rfl) (by kernel_rfl) rfl (fun _ _ _ _ h => h) ?_; apply Exists.intro; refine And.intro (fun x => ?_) ?_
      · go_big_quiet_step (((go_at_call 14; exact Calls.quietE (CA2.out _)))); exact wpQuiet_nil rfl
      refine Dm.wpE_take (i := 14) (listed' := (Dm.bits 21 32255)) (by kernel_rfl) (by kernel_rfl) rfl (fun _ _ _ _ h => h) ?_; apply Exists.intro; refine And.intro (fun x => ?_) ?_
      · go_big_quiet_step (((go_at_call 14; exact Calls.quietE (CA2.out _)))); exact wpQuiet_nil rfl
      refine Dm.wpE_one (i := 9) (listed' := (Dm.bits 21 32767)) (by kernel_rfl) (by kernel_rfl) rfl hX1b (fun w2a hx2a => ?_)
      have hX2a := Ext.trans hX1b hx2a
      replace hAt := hAt.ext hx2a
      obtain ⟨hAl, hAc⟩ := hAt
      go_wp2_with fail
      clear hAl hAc
      have hX2b := hX2a
      have hs2 := Ext.refl w2a
      generalize w2a = w2b at *
      try simp only [Exit.then, Act.put]
      refine Dm.wpE_one (i := 15) (listed' := (Dm.bits 21 65535)) (by kernel_rfl) (by kernel_rfl) rfl hX2b (fun w3a hx3a => ?_)
      have hX3a := Ext.trans hX2b hx3a
      go_wp2_with (go_at_call 12; go_must (refine (CF1.out _ w3a (hx.ext hX3a) (hb.trans hX3a)).mono ?_; rintro e w3b ⟨v3, rfl, hx3, hs3⟩))
      have hX3b := Ext.trans hX3a hs3
      try simp only [Exit.then, Act.put]
      refine Dm.wpE_take (i := 16) (listed' := (Dm.bits 21 131071)) (by kernel_rfl) (by kernel_rfl) rfl (fun _ _ _ _ h => h) ?_; apply Exists.intro; refine And.intro (fun x => ?_) ?_
      · go_big_quiet_step (((go_at_call 14; exact Calls.quietE (CA2.out _)))); exact wpQuiet_nil rfl
      refine Dm.wpE_take (i := 17) (listed' := (Dm.bits 21 262143)) (by kernel_rfl) (by kernel_rfl) rfl (fun _ _ _ _ h => h) ?_; apply Exists.intro; refine And.intro (fun x => ?_) ?_
      · go_big_quiet_step (((go_at_call 14; exact Calls.quietE (CA2.out _)))); exact wpQuiet_nil rfl
      refine Dm.wpE_take (i := 18) (listed' := (Dm.bits 21 524287)) (by kernel_rfl) (by kernel_rfl) rfl (fun _ _ _ _ h => h) ?_; apply Exists.intro; refine And.intro (fun x => ?_) ?_
      · go_big_quiet_step (((go_at_call 14; exact Calls.quietE (CA2.out _)))); exact wpQuiet_nil rfl
      refine Dm.wpE_take (i := 19) (listed' := (Dm.bits 21 1048575)) (by kernel_rfl) (by kernel_rfl) rfl (fun _ _ _ _ h => h) ?_; apply Exists.intro; refine And.intro (fun x => ?_) ?_
      · go_big_quiet_step (((go_at_call 14; exact Calls.quietE (CA2.out _)))); exact wpQuiet_nil rfl
      refine Dm.wpE_take (i := 20) (listed' := (Dm.bits 21 2097151)) (by kernel_rfl) (by kernel_rfl) rfl (fun _ _ _ _ h => h) ?_; apply Exists.intro; refine And.intro (fun x => ?_) ?_
      · go_big_quiet_step (((go_at_call 14; exact Calls.quietE (CA2.out _)))); exact wpQuiet_nil rfl
      refine Dm.wpE_done (by kernel_rfl) hX3b (fun w4a hx4a => ?_)
      have hX4a := Ext.trans hX3b hx4a
      replace hx3 := hx3.ext hx4a
      replace hb := hb.trans hX4a
      replace hT1 := Sl.ext hT1 hX4a
      replace hT2 := Sl.ext hT2 hX4a
      clear c0 c1 c2 c3 c4 c5 d0 d1 d2 d3 d4 d5
      generalize w4a = w4 at *
      go_wp2_with fail
      try simp only [Act.put, List.setIfInBounds_toArray, List.set_cons_succ, List.set_cons_zero]
      refine Dm.wp_region_ext 10 (Dm.bits 10 0) (Ext.refl w4) (by kernel_rfl) (by kernel_rfl) (by kernel_rfl) ?_
      refine Dm.wpE_take (i := 0) (listed' := (Dm.bits 10 1)) (by kernel_rfl) (by kernel_rfl) rfl (fun _ _ _ _ h => h) ?_; apply Exists.intro; refine And.intro (fun x => ?_) ?_
      · go_big_quiet_step (fail); exact wpQuiet_nil rfl
      refine Dm.wpE_take (i := 1) (listed' := (Dm.bits 10 3)) (by kernel_rfl) (by kernel_rfl) rfl (fun _ _ _ _ h => h) ?_; apply Exists.intro; refine And.intro (fun x => ?_) ?_
      · go_big_quiet_step (fail); exact wpQuiet_nil rfl
      refine Dm.wpE_take (i := 2) (listed' := (Dm.bits 10 7)) (by kernel_rfl) (by kernel_rfl) rfl (fun _ _ _ _ h => h) ?_; apply Exists.intro; refine And.intro (fun x => ?_) ?_
      · go_big_quiet_step (fail); exact wpQuiet_nil rfl
      refine Dm.wpE_take (i := 4) (listed' := (Dm.bits 10 23)) (by kernel_rfl) (by kernel_rfl) rfl (fun _ _ _ _ h => h) ?_; apply Exists.intro; refine And.intro (fun x => ?_) ?_
      · go_big_quiet_step (fail); exact wpQuiet_nil rfl
      refine Dm.wpE_take (i := 5) (listed' := (Dm.bits 10 55)) (by kernel_rfl) (by kernel_rfl) rfl (fun _ _ _ _ h => h) ?_; apply Exists.intro; refine And.intro (fun x => ?_) ?_
      · go_big_quiet_step (fail); exact wpQuiet_nil rfl
      refine Dm.wpE_take (i := 6) (listed' := (Dm.bits 10 119)) (by kernel_rfl) (by kernel_rfl) rfl (fun _ _ _ _ h => h) ?_; apply Exists.intro; refine And.intro (fun x => ?_) ?_
      · go_big_quiet_step (fail); exact wpQuiet_nil rfl
      refine Dm.wpE_take (i := 7) (listed' := (Dm.bits 10 247)) (by kernel_rfl) (by kernel_rfl) rfl (fun _ _ _ _ h => h) ?_; apply Exists.intro; refine And.intro (fun x => ?_) ?_
      · go_big_quiet_step (fail); exact wpQuiet_nil rfl
      refine Dm.wpE_one (i := 3) (listed' := (Dm.bits 10 255)) (by kernel_rfl) (by kernel_rfl) rfl (Ext.refl w4) (fun w1a hx1a => ?_)
      have hX1a := Ext.trans (Ext.refl w4) hx1a
      refine wpList_appE (n := 0) (m := j) rfl _ _ Tryd.slCh rfl hX1a rfl (World.ownsRow_nil _ _ _ _) rfl (Sl.ext hT1 hX1a) (fun u hu => chCells_one L u (List.mem_of_mem_take hu)) (by omega) ?_
      intro v5 w1b ho5 hbn5 hg5
      have hs1 := hg5 rfl
      have hX1b := Ext.trans hX1a hs1
      clear hg5 hbn5
      refine wpList_nil ?_
      try simp only [Exit.then, Act.put, List.setIfInBounds_toArray, List.set_cons_succ, List.set_cons_zero]
      refine Dm.wpE_one (i := 8) (listed' := (Dm.bits 10 511)) (by kernel_rfl) (by kernel_rfl) rfl hX1b (fun w2a hx2a => ?_)
      have hX2a := Ext.trans hX1b hx2a
      replace ho5 := Ext.row ho5 hx2a
      refine wpList_appE (n := 0 + j) (m := L.length - j1) rfl _ _ Tryd.slCh rfl hX2a rfl ho5 rfl (Sl.ext hT2 hX2a) (fun u hu => chCells_one L u (List.mem_of_mem_drop hu)) (by omega) ?_
      intro v6 w2b ho6 hX2b _
      refine wpList_nil ?_
      try simp only [Exit.then, Act.put, List.setIfInBounds_toArray, List.set_cons_succ, List.set_cons_zero]
      refine Dm.wpE_take (i := 9) (listed' := (Dm.bits 10 1023)) (by kernel_rfl) (by kernel_rfl) rfl (fun _ _ _ _ h => h) ?_; apply Exists.intro; refine And.intro (fun x => ?_) ?_
      · go_big_quiet_step (fail); exact wpQuiet_nil rfl
      refine Dm.wpE_done (by kernel_rfl) hX2b (fun w3a hx3a => ?_)
      have hX3a := Ext.trans hX2b hx3a
      replace ho6 := Ext.row ho6 hx3a
      have hrow := row_mono (hb.size) ho6
      rw [List.nil_append, chCells_take L j (by omega), chCells_drop L j1 hj1l, ← chCells_app, hj1e.out] at hrow
      replace hrow := Lib.hid hrow
      clear ho6 ho
      go_wp2
      go_roundw
      case rel =>
        refine ⟨n + 1, R2, L.take j ++ L.drop (j + 1), by omega, by omega, by go_num, by simp; omega, hb.trans hX3a, hx3.ext hX3a, ?_, fun c hc => ?_, hI2.out⟩
        · rw [show (L.take j ++ L.drop (j + 1)).length = 0 + j + (L.length - (j + 1)) by simp; omega]
          exact hrow.out
        · rcases List.mem_append.1 hc with hc | hc
          · exact hLc c (List.mem_of_mem_take hc)
          · exact hLc c (List.mem_of_mem_drop hc)
      case measure => simp [intOf]; omega
    · have hnb : ¬ (bk = true ∧ 0 < L.length) := hbk
      have hpk' := hpk
      generalize x % 8 = pk at *
      cases bk with
      | false =>
        have c0 := hcs2.out w3 (Ext.refl _) 0 (by omega)
        have c1 := hcs2.out w3 (Ext.refl _) 1 (by omega)
        have c2 := hcs2.out w3 (Ext.refl _) 2 (by omega)
        have c3 := hcs2.out w3 (Ext.refl _) 3 (by omega)
        have c4 := hcs2.out w3 (Ext.refl _) 4 (by omega)
        have c5 := hcs2.out w3 (Ext.refl _) 5 (by omega)
        simp only [chOne, List.getElem?_cons_zero, List.getElem?_cons_succ, Nat.add_zero] at c0 c1 c2 c3 c4 c5
        clear hcs
        go_wp2_with fail
        try simp only [Act.put, List.setIfInBounds_toArray, List.set_cons_succ, List.set_cons_zero]
        refine Dm.wp_region_ext 21 (Dm.bits 21 0) (Ext.refl w3) (by kernel_rfl) (by kernel_rfl) (by kernel_rfl) ?_
        refine Dm.wpE_take (i := 0) (listed' := (Dm.bits 21 1)) (by kernel_rfl) (by kernel_rfl) rfl (fun _ _ _ _ h => h) ?_; apply Exists.intro; refine And.intro (fun x => ?_) ?_
        · go_big_quiet_step (((go_at_call 14; exact Calls.quietE (CA1.out _)))); exact wpQuiet_nil rfl
        refine Dm.wpE_take (i := 2) (listed' := (Dm.bits 21 5)) (by kernel_rfl) (by kernel_rfl) rfl (fun _ _ _ _ h => h) ?_; apply Exists.intro; refine And.intro (fun x => ?_) ?_
        · go_big_quiet_step (((go_at_call 14; exact Calls.quietE (CA1.out _)))); exact wpQuiet_nil rfl
        refine Dm.wpE_take (i := 3) (listed' := (Dm.bits 21 13)) (by kernel_rfl) (by kernel_rfl) rfl (fun _ _ _ _ h => h) ?_; apply Exists.intro; refine And.intro (fun x => ?_) ?_
        · go_big_quiet_step (((go_at_call 14; exact Calls.quietE (CA1.out _)))); exact wpQuiet_nil rfl
        refine Dm.wpE_take (i := 4) (listed' := (Dm.bits 21 29)) (by kernel_rfl) (by kernel_rfl) rfl (fun _ _ _ _ h => h) ?_; apply Exists.intro; refine And.intro (fun x => ?_) ?_
        · go_big_quiet_step (((go_at_call 14; exact Calls.quietE (CA1.out _)))); exact wpQuiet_nil rfl
        refine Dm.wpE_take (i := 5) (listed' := (Dm.bits 21 61)) (by kernel_rfl) (by kernel_rfl) rfl (fun _ _ _ _ h => h) ?_; apply Exists.intro; refine And.intro (fun x => ?_) ?_
        · go_big_quiet_step (((go_at_call 14; exact Calls.quietE (CA1.out _)))); exact wpQuiet_nil rfl
        refine Dm.wpE_take (i := 6) (listed' := (Dm.bits 21 125)) (by kernel_rfl) (by kernel_rfl) rfl (fun _ _ _ _ h => h) ?_; apply Exists.intro; refine And.intro (fun x => ?_) ?_
        · go_big_quiet_step (((go_at_call 14; exact Calls.quietE (CA1.out _)))); exact wpQuiet_nil rfl
        refine Dm.wpE_take (i := 7) (listed' := (Dm.bits 21 253)) (by kernel_rfl) (by kernel_rfl) rfl (fun _ _ _ _ h => h) ?_; apply Exists.intro; refine And.intro (fun x => ?_) ?_
        · go_big_quiet_step (((go_at_call 14; exact Calls.quietE (CA1.out _)))); exact wpQuiet_nil rfl
        refine Dm.wpE_take (i := 10) (listed' := (Dm.bits 21 1277)) (by kernel_rfl) (by kernel_rfl) rfl (fun _ _ _ _ h => h) ?_; apply Exists.intro; refine And.intro (fun x => ?_) ?_
        · go_big_quiet_step (((go_at_call 14; exact Calls.quietE (CA1.out _)))); exact wpQuiet_nil rfl
        refine Dm.wpE_take (i := 11) (listed' := (Dm.bits 21 3325)) (by kernel_rfl) (by kernel_rfl) rfl (fun _ _ _ _ h => h) ?_; apply Exists.intro; refine And.intro (fun x => ?_) ?_
        · go_big_quiet_step (((go_at_call 14; exact Calls.quietE (CA1.out _)))); exact wpQuiet_nil rfl
        refine Dm.wpE_take (i := 12) (listed' := (Dm.bits 21 7421)) (by kernel_rfl) (by kernel_rfl) rfl (fun _ _ _ _ h => h) ?_; apply Exists.intro; refine And.intro (fun x => ?_) ?_
        · go_big_quiet_step (((go_at_call 14; exact Calls.quietE (CA1.out _)))); exact wpQuiet_nil rfl
        refine Dm.wpE_take (i := 13) (listed' := (Dm.bits 21 15613)) (by kernel_rfl) (by kernel_rfl) rfl (fun _ _ _ _ h => h) ?_; apply Exists.intro; refine And.intro (fun x => ?_) ?_
        · go_big_quiet_step (((go_at_call 14; exact Calls.quietE (CA1.out _)))); exact wpQuiet_nil rfl
        refine Dm.wpE_one (i := 1) (listed' := (Dm.bits 21 15615)) (by kernel_rfl) (by kernel_rfl) rfl (Ext.refl w3) (fun w1a hx1a => ?_)
        have hX1a := Ext.trans (Ext.refl w3) hx1a
        go_wp2_with (go_at_call 13; go_must (refine (CP.out w1a).mono ?_; rintro e w1b ⟨vp, rfl, hPs, hs1⟩))
        obtain ⟨pp, pcap, rfl, _, _⟩ := hPs.shape
        obtain ⟨pb, po, rfl, hpbl, hpc⟩ := hPs.at (k := pk) hpk
        have hAt : AtC pb (po + pk) (.string (pth pk)) w1b := ⟨hpbl, hpc⟩
        clear hPs hpc hpbl
        have hpkl : pk < pathsB.length := hpk
        have hX1b := Ext.trans hX1a hs1
        try simp only [Exit.then, Act.put]
        refine Dm.wpE_take (i := 8) (listed' := (Dm.bits 21 15871)) (by kernel_rfl) (by kernel_rfl) rfl (fun _ _ _ _ h => h) ?_; apply Exists.intro; refine And.intro (fun x => ?_) ?_
        · go_big_quiet_step (((go_at_call 14; exact Calls.quietE (CA1.out _)))); exact wpQuiet_nil rfl
        refine Dm.wpE_take (i := 14) (listed' := (Dm.bits 21 32255)) (by kernel_rfl) (by kernel_rfl) rfl (fun _ _ _ _ h => h) ?_; apply Exists.intro; refine And.intro (fun x => ?_) ?_
        · go_big_quiet_step (((go_at_call 14; exact Calls.quietE (CA1.out _)))); exact wpQuiet_nil rfl
        refine Dm.wpE_one (i := 9) (listed' := (Dm.bits 21 32767)) (by kernel_rfl) (by kernel_rfl) rfl hX1b (fun w2a hx2a => ?_)
        have hX2a := Ext.trans hX1b hx2a
        replace hAt := hAt.ext hx2a
        obtain ⟨hAl, hAc⟩ := hAt
        go_wp2_with fail
        clear hAl hAc
        have hX2b := hX2a
        have hs2 := Ext.refl w2a
        generalize w2a = w2b at *
        try simp only [Exit.then, Act.put]
        refine Dm.wpE_one (i := 15) (listed' := (Dm.bits 21 65535)) (by kernel_rfl) (by kernel_rfl) rfl hX2b (fun w3a hx3a => ?_)
        have hX3a := Ext.trans hX2b hx3a
        have hbase := hX3a.size
        go_wp2_with (go_at_call 15; go_must (refine (CC1.out _ w3a (hx.ext hX3a) (hb.trans hX3a)).mono ?_; rintro e w3b ⟨v3, rfl, hx3, hs3, ho3⟩))
        replace ho3 := fun h => Dm.row_mono hbase (ho3 h)
        clear hbase
        replace ho3 := Lib.hid ho3
        have hX3b := Ext.trans hX3a hs3
        try simp only [Exit.then, Act.put]
        refine Dm.wpE_take (i := 16) (listed' := (Dm.bits 21 131071)) (by kernel_rfl) (by kernel_rfl) rfl (fun _ _ _ _ h => h) ?_; apply Exists.intro; refine And.intro (fun x => ?_) ?_
        · go_big_quiet_step (((go_at_call 14; exact Calls.quietE (CA1.out _)))); exact wpQuiet_nil rfl
        refine Dm.wpE_take (i := 17) (listed' := (Dm.bits 21 262143)) (by kernel_rfl) (by kernel_rfl) rfl (fun _ _ _ _ h => h) ?_; apply Exists.intro; refine And.intro (fun x => ?_) ?_
        · go_big_quiet_step (((go_at_call 14; exact Calls.quietE (CA1.out _)))); exact wpQuiet_nil rfl
        refine Dm.wpE_take (i := 18) (listed' := (Dm.bits 21 524287)) (by kernel_rfl) (by kernel_rfl) rfl (fun _ _ _ _ h => h) ?_; apply Exists.intro; refine And.intro (fun x => ?_) ?_
        · go_big_quiet_step (((go_at_call 14; exact Calls.quietE (CA1.out _)))); exact wpQuiet_nil rfl
        refine Dm.wpE_take (i := 19) (listed' := (Dm.bits 21 1048575)) (by kernel_rfl) (by kernel_rfl) rfl (fun _ _ _ _ h => h) ?_; apply Exists.intro; refine And.intro (fun x => ?_) ?_
        · go_big_quiet_step (((go_at_call 14; exact Calls.quietE (CA1.out _)))); exact wpQuiet_nil rfl
        refine Dm.wpE_take (i := 20) (listed' := (Dm.bits 21 2097151)) (by kernel_rfl) (by kernel_rfl) rfl (fun _ _ _ _ h => h) ?_; apply Exists.intro; refine And.intro (fun x => ?_) ?_
        · go_big_quiet_step (((go_at_call 14; exact Calls.quietE (CA1.out _)))); exact wpQuiet_nil rfl
        refine Dm.wpE_done (by kernel_rfl) hX3b (fun w4a hx4a => ?_)
        have hX4a := Ext.trans hX3b hx4a
        replace hx3 := hx3.ext hx4a
        have ho4 := fun h => Ext.row (ho3.out h) hx4a
        clear ho3
        replace hb := hb.trans hX4a
        have hoL := fun b h => World.ownsRow.lt ho b h
        replace ho := Ext.row ho hX4a
        replace ho4 := Lib.hid ho4
        replace hoL := Lib.hid hoL
        have hcs4 := hcs2.out _ hX4a
        have hap4 := hap.out _ hX4a
        have hmb4 := hmb2 _ hX4a
        clear c0 c1 c2 c3 c4 c5 hcs2 hap hmb2
        generalize w4a = w4 at *
        have c0 := hcs4 0 (by omega)
        have c1 := hcs4 1 (by omega)
        have c2 := hcs4 2 (by omega)
        have c3 := hcs4 3 (by omega)
        have c4 := hcs4 4 (by omega)
        have c5 := hcs4 5 (by omega)
        simp only [chOne, List.getElem?_cons_zero, List.getElem?_cons_succ, Nat.add_zero] at c0 c1 c2 c3 c4 c5
        clear hcs4
        by_cases he : eno = 0
        · subst he
          have hI2 := Lib.hid (hgo.out rfl)
          have ho5 := Ext.row (ho4.out rfl) ((Ext.refl _).alloc (.cells #[.int .u8 (x : Nat), .int .u8 (a : Nat), .int .u8 (b : Nat), .int .u8 (g : Nat), .int .u8 (d : Nat), .bool false] 28))
          have hba := hb.trans ((Ext.refl _).alloc (.cells #[.int .u8 (x : Nat), .int .u8 (a : Nat), .int .u8 (b : Nat), .int .u8 (g : Nat), .int .u8 (d : Nat), .bool false] 28))
          have hoa := Ext.row ho ((Ext.refl _).alloc (.cells #[.int .u8 (x : Nat), .int .u8 (a : Nat), .int .u8 (b : Nat), .int .u8 (g : Nat), .int .u8 (d : Nat), .bool false] 28))
          replace hap4 := Lib.hid hap4
          replace ho5 := Lib.hid ho5
          replace hoa := Lib.hid hoa
          clear ho4
          go_wp2_with (at_builtin; go_must (refine wpList_app (base := w.heap.size) (n := L.length) (m := 1) rfl _ _ Tryd.slCh rfl rfl hoa.out rfl hap4.out hone (by omega) hba.size ?_; intro v5 w5 ho6 hg5))
          go_roundw
          case rel =>
            refine ⟨n + 1, R, L ++ [((x, a, b, g, d), false)], by omega, by omega, by go_num, by simp only [List.length_append, List.length_cons, List.length_nil]; omega, Ext.app hba hoa.out hg5 (Nat.le_refl _), ?_, ?_, fun c hc => ?_, hI2.out⟩
            · refine Tree.of_row (n := (conc S).length) (row_grown ho5.out hg5 fun b hb1 e => ?_) ?_
              · have h1 := (World.ownsRow.lt ho5.out b hb1).1
                have h2 := (hoL.out b e).2
                omega
              · have := ho5.out.1
                rw [entCellsQ_len] at this
                omega
            · rw [List.length_append, chCells_app]
              exact ho6
            · rcases List.mem_append.1 hc with hc | hc
              · exact hLc c hc
              · rw [List.mem_singleton.1 hc]; exact hok
          case measure => simp [intOf]; omega
        · have hRS : R = S := hst.out he
          subst hRS
          have hei : ¬ (eno : Int) = 0 := by omega
          go_wp2
          go_roundw
          case rel => exact ⟨n + 1, R, L, by omega, by omega, by go_num, by omega, hb, hx3, ho, hLc, HI⟩
          case measure => simp [intOf]; omega
      | true =>
        have hLz : L.length = 0 := by
          rcases Nat.eq_zero_or_pos L.length with h | h
          · exact h
          · exact absurd ⟨rfl, h⟩ hnb
        obtain rfl : L = [] := List.eq_nil_of_length_eq_zero hLz
        clear hLz
        have c0 := hcs2.out w3 (Ext.refl _) 0 (by omega)
        have c1 := hcs2.out w3 (Ext.refl _) 1 (by omega)
        have c2 := hcs2.out w3 (Ext.refl _) 2 (by omega)
        have c3 := hcs2.out w3 (Ext.refl _) 3 (by omega)
        have c4 := hcs2.out w3 (Ext.refl _) 4 (by omega)
        have c5 := hcs2.out w3 (Ext.refl _) 5 (by omega)
        simp only [chOne, List.getElem?_cons_zero, List.getElem?_cons_succ, Nat.add_zero] at c0 c1 c2 c3 c4 c5
        clear hcs
        go_wp2_with fail
        try simp only [Act.put, List.setIfInBounds_toArray, List.set_cons_succ, List.set_cons_zero]
        refine Dm.wp_region_ext 21 (Dm.bits 21 0) (Ext.refl w3) (by kernel_rfl) (by kernel_rfl) (by kernel_rfl) ?_
        refine Dm.wpE_take (i := 0) (listed' := (Dm.bits 21 1)) (by kernel_rfl) (by kernel_rfl) rfl (fun _ _ _ _ h => h) ?_; apply Exists.intro; refine And.intro (fun x => ?_) ?_
        · go_big_quiet_step (((go_at_call 14; exact Calls.quietE (CA1.out _)))); exact wpQuiet_nil rfl
        refine Dm.wpE_take (i := 2) (listed' := (Dm.bits 21 5)) (by kernel_rfl) (by kernel_rfl) rfl (fun _ _ _ _ h => h) ?_; apply Exists.intro; refine And.intro (fun x => ?_) ?_
        · go_big_quiet_step (((go_at_call 14; exact Calls.quietE (CA1.out _)))); exact wpQuiet_nil rfl
        refine Dm.wpE_take (i := 3) (listed' := (Dm.bits 21 13)) (by kernel_rfl) (by kernel_rfl) rfl (fun _ _ _ _ h => h) ?_; apply Exists.intro; refine And.intro (fun x => ?_) ?_
        · go_big_quiet_step (((go_at_call 14; exact Calls.quietE (CA1.out _)))); exact wpQuiet_nil rfl
        refine Dm.wpE_take (i := 4) (listed' := (Dm.bits 21 29)) (by kernel_rfl) (by kernel_rfl) rfl (fun _ _ _ _ h => h) ?_; apply Exists.intro; refine And.intro (fun x => ?_) ?_
        · go_big_quiet_step (((go_at_call 14; exact Calls.quietE (CA1.out _)))); exact wpQuiet_nil rfl
        refine Dm.wpE_take (i := 5) (listed' := (Dm.bits 21 61)) (by kernel_rfl) (by kernel_rfl) rfl (fun _ _ _ _ h => h) ?_; apply Exists.intro; refine And.intro (fun x => ?_) ?_
        · go_big_quiet_step (((go_at_call 14; exact Calls.quietE (CA1.out _)))); exact wpQuiet_nil rfl
        refine Dm.wpE_take (i := 6) (listed' := (Dm.bits 21 125)) (by kernel_rfl) (by kernel_rfl) rfl (fun _ _ _ _ h => h) ?_; apply Exists.intro; refine And.intro (fun x => ?_) ?_
        · go_big_quiet_step (((go_at_call 14; exact Calls.quietE (CA1.out _)))); exact wpQuiet_nil rfl
        refine Dm.wpE_take (i := 7) (listed' := (Dm.bits 21 253)) (by kernel_rfl) (by kernel_rfl) rfl (fun _ _ _ _ h => h) ?_; apply Exists.intro; refine And.intro (fun x => ?_) ?_
        · go_big_quiet_step (((go_at_call 14; exact Calls.quietE (CA1.out _)))); exact wpQuiet_nil rfl
        refine Dm.wpE_take (i := 10) (listed' := (Dm.bits 21 1277)) (by kernel_rfl) (by kernel_rfl) rfl (fun _ _ _ _ h => h) ?_; apply Exists.intro; refine And.intro (fun x => ?_) ?_
        · go_big_quiet_step (((go_at_call 14; exact Calls.quietE (CA1.out _)))); exact wpQuiet_nil rfl
        refine Dm.wpE_take (i := 11) (listed' := (Dm.bits 21 3325)) (by kernel_rfl) (by kernel_rfl) rfl (fun _ _ _ _ h => h) ?_; apply Exists.intro; refine And.intro (fun x => ?_) ?_
        · go_big_quiet_step (((go_at_call 14; exact Calls.quietE (CA1.out _)))); exact wpQuiet_nil rfl
        refine Dm.wpE_take (i := 12) (listed' := (Dm.bits 21 7421)) (by kernel_rfl) (by kernel_rfl) rfl (fun _ _ _ _ h => h) ?_; apply Exists.intro; refine And.intro (fun x => ?_) ?_
        · go_big_quiet_step (((go_at_call 14; exact Calls.quietE (CA1.out _)))); exact wpQuiet_nil rfl
        refine Dm.wpE_take (i := 13) (listed' := (Dm.bits 21 15613)) (by kernel_rfl) (by kernel_rfl) rfl (fun _ _ _ _ h => h) ?_; apply Exists.intro; refine And.intro (fun x => ?_) ?_
        · go_big_quiet_step (((go_at_call 14; exact Calls.quietE (CA1.out _)))); exact wpQuiet_nil rfl
        refine Dm.wpE_one (i := 1) (listed' := (Dm.bits 21 15615)) (by kernel_rfl) (by kernel_rfl) rfl (Ext.refl w3) (fun w1a hx1a => ?_)
        have hX1a := Ext.trans (Ext.refl w3) hx1a
        go_wp2_with (go_at_call 13; go_must (refine (CP.out w1a).mono ?_; rintro e w1b ⟨vp, rfl, hPs, hs1⟩))
        obtain ⟨pp, pcap, rfl, _, _⟩ := hPs.shape
        obtain ⟨pb, po, rfl, hpbl, hpc⟩ := hPs.at (k := pk) hpk
        have hAt : AtC pb (po + pk) (.string (pth pk)) w1b := ⟨hpbl, hpc⟩
        clear hPs hpc hpbl
        have hpkl : pk < pathsB.length := hpk
        have hX1b := Ext.trans hX1a hs1
        try simp only [Exit.then, Act.put]
        refine Dm.wpE_take (i := 8) (listed' := (Dm.bits 21 15871)) (by kernel_rfl) (by kernel_rfl) rfl (fun _ _ _ _ h => h) ?_; apply Exists.intro; refine And.intro (fun x => ?_) ?_
        · go_big_quiet_step (((go_at_call 14; exact Calls.quietE (CA1.out _)))); exact wpQuiet_nil rfl
        refine Dm.wpE_take (i := 14) (listed' := (Dm.bits 21 32255)) (by kernel_rfl) (by kernel_rfl) rfl (fun _ _ _ _ h => h) ?_; apply Exists.intro; refine And.intro (fun x => ?_) ?_
        · go_big_quiet_step (((go_at_call 14; exact Calls.quietE (CA1.out _)))); exact wpQuiet_nil rfl
        refine Dm.wpE_one (i := 9) (listed' := (Dm.bits 21 32767)) (by kernel_rfl) (by kernel_rfl) rfl hX1b (fun w2a hx2a => ?_)
        have hX2a := Ext.trans hX1b hx2a
        replace hAt := hAt.ext hx2a
        obtain ⟨hAl, hAc⟩ := hAt
        go_wp2_with fail
        clear hAl hAc
        have hX2b := hX2a
        have hs2 := Ext.refl w2a
        generalize w2a = w2b at *
        try simp only [Exit.then, Act.put]
        refine Dm.wpE_one (i := 15) (listed' := (Dm.bits 21 65535)) (by kernel_rfl) (by kernel_rfl) rfl hX2b (fun w3a hx3a => ?_)
        have hX3a := Ext.trans hX2b hx3a
        have hbase := hX3a.size
        go_wp2_with (go_at_call 15; go_must (refine (CC1.out _ w3a (hx.ext hX3a) (hb.trans hX3a)).mono ?_; rintro e w3b ⟨v3, rfl, hx3, hs3, ho3⟩))
        replace ho3 := fun h => Dm.row_mono hbase (ho3 h)
        clear hbase
        replace ho3 := Lib.hid ho3
        have hX3b := Ext.trans hX3a hs3
        try simp only [Exit.then, Act.put]
        refine Dm.wpE_take (i := 16) (listed' := (Dm.bits 21 131071)) (by kernel_rfl) (by kernel_rfl) rfl (fun _ _ _ _ h => h) ?_; apply Exists.intro; refine And.intro (fun x => ?_) ?_
        · go_big_quiet_step (((go_at_call 14; exact Calls.quietE (CA1.out _)))); exact wpQuiet_nil rfl
        refine Dm.wpE_take (i := 17) (listed' := (Dm.bits 21 262143)) (by kernel_rfl) (by kernel_rfl) rfl (fun _ _ _ _ h => h) ?_; apply Exists.intro; refine And.intro (fun x => ?_) ?_
        · go_big_quiet_step (((go_at_call 14; exact Calls.quietE (CA1.out _)))); exact wpQuiet_nil rfl
        refine Dm.wpE_take (i := 18) (listed' := (Dm.bits 21 524287)) (by kernel_rfl) (by kernel_rfl) rfl (fun _ _ _ _ h => h) ?_; apply Exists.intro; refine And.intro (fun x => ?_) ?_
        · go_big_quiet_step (((go_at_call 14; exact Calls.quietE (CA1.out _)))); exact wpQuiet_nil rfl
        refine Dm.wpE_take (i := 19) (listed' := (Dm.bits 21 1048575)) (by kernel_rfl) (by kernel_rfl) rfl (fun _ _ _ _ h => h) ?_; apply Exists.intro; refine And.intro (fun x => ?_) ?_
        · go_big_quiet_step (((go_at_call 14; exact Calls.quietE (CA1.out _)))); exact wpQuiet_nil rfl
        refine Dm.wpE_take (i := 20) (listed' := (Dm.bits 21 2097151)) (by kernel_rfl) (by kernel_rfl) rfl (fun _ _ _ _ h => h) ?_; apply Exists.intro; refine And.intro (fun x => ?_) ?_
        · go_big_quiet_step (((go_at_call 14; exact Calls.quietE (CA1.out _)))); exact wpQuiet_nil rfl
        refine Dm.wpE_done (by kernel_rfl) hX3b (fun w4a hx4a => ?_)
        have hX4a := Ext.trans hX3b hx4a
        replace hx3 := hx3.ext hx4a
        have ho4 := fun h => Ext.row (ho3.out h) hx4a
        clear ho3
        replace hb := hb.trans hX4a
        have hoL := fun b h => World.ownsRow.lt ho b h
        replace ho := Ext.row ho hX4a
        replace ho4 := Lib.hid ho4
        replace hoL := Lib.hid hoL
        have hcs4 := hcs2.out _ hX4a
        have hap4 := hap.out _ hX4a
        have hmb4 := hmb2 _ hX4a
        clear c0 c1 c2 c3 c4 c5 hcs2 hap hmb2
        generalize w4a = w4 at *
        have c0 := hcs4 0 (by omega)
        have c1 := hcs4 1 (by omega)
        have c2 := hcs4 2 (by omega)
        have c3 := hcs4 3 (by omega)
        have c4 := hcs4 4 (by omega)
        have c5 := hcs4 5 (by omega)
        simp only [chOne, List.getElem?_cons_zero, List.getElem?_cons_succ, Nat.add_zero] at c0 c1 c2 c3 c4 c5
        clear hcs4
        by_cases he : eno = 0
        · subst he
          have hI2 := Lib.hid (hgo.out rfl)
          have ho5 := Ext.row (ho4.out rfl) ((Ext.refl _).alloc (.cells #[.int .u8 (x : Nat), .int .u8 (a : Nat), .int .u8 (b : Nat), .int .u8 (g : Nat), .int .u8 (d : Nat), .bool true] 28))
          have hba := hb.trans ((Ext.refl _).alloc (.cells #[.int .u8 (x : Nat), .int .u8 (a : Nat), .int .u8 (b : Nat), .int .u8 (g : Nat), .int .u8 (d : Nat), .bool true] 28))
          have hoa := Ext.row ho ((Ext.refl _).alloc (.cells #[.int .u8 (x : Nat), .int .u8 (a : Nat), .int .u8 (b : Nat), .int .u8 (g : Nat), .int .u8 (d : Nat), .bool true] 28))
          replace hap4 := Lib.hid hap4
          replace ho5 := Lib.hid ho5
          replace hoa := Lib.hid hoa
          clear ho4
          go_wp2_with (at_builtin; go_must (refine wpList_app (base := w.heap.size) (n := 0) (m := 1) rfl _ _ Tryd.slCh rfl rfl hoa.out rfl hap4.out hone (by omega) hba.size ?_; intro v5 w5 ho6 hg5))
          go_roundw
          case rel =>
            refine ⟨n + 1, R, [] ++ [((x, a, b, g, d), true)], by omega, by omega, by go_num, by simp only [List.length_append, List.length_cons, List.length_nil]; omega, Ext.app hba hoa.out hg5 (Nat.le_refl _), ?_, ?_, fun c hc => ?_, hI2.out⟩
            · refine Tree.of_row (n := (conc S).length) (row_grown ho5.out hg5 fun b hb1 e => ?_) ?_
              · have h1 := (World.ownsRow.lt ho5.out b hb1).1
                have h2 := (hoL.out b e).2
                omega
              · have := ho5.out.1
                rw [entCellsQ_len] at this
                omega
            · rw [List.length_append, chCells_app]
              exact ho6
            · rcases List.mem_append.1 hc with hc | hc
              · exact hLc c hc
              · rw [List.mem_singleton.1 hc]; exact hok
          case measure => simp [intOf]; omega
        · have hRS : R = S := hst.out he
          subst hRS
          have hei : ¬ (eno : Int) = 0 := by omega
          go_wp2
          go_roundw
          case rel => exact ⟨n + 1, R, [], by omega, by omega, by go_num, by omega, hb, hx3, ho, hLc, HI⟩
          case measure => simp [intOf]; omega
end Go.Proofs.YtopnllbfhhjobaaDoor

namespace Go.Dm
open Go Go.RowKit

def vecD (A : Nat → Nat) : DataW Unit := .agg [.lit (.int .u64 (A 0 : Nat)), .lit (.int .u64 (A 1 : Nat)), .lit (.int .u64 (A 2 : Nat)), .lit (.int .u64 (A 3 : Nat))]
open Classical in
/-- How an amount reads as a map's element. -/
noncomputable def vecElem (v : Value) : Option (DataW Unit × List MemPlace) := if h : ∃ A : Nat → Nat, v = vF A then some (vecD (Classical.choose h), []) else none
theorem vF_inj {A B : Nat → Nat} (h : vF A = vF B) : A 0 = B 0 ∧ A 1 = B 1 ∧ A 2 = B 2 ∧ A 3 = B 3 := by
  unfold vF at h
  injection h with h
  simp at h
  omega
theorem vecD_iff {A B : Nat → Nat} : vecD A = vecD B ↔ vF A = vF B := by
  constructor
  · intro h
    unfold vecD at h
    injection h with h
    simp at h
    exact vF_eq fun k hk => by
      match k, hk with
      | 0, _ => omega
      | 1, _ => omega
      | 2, _ => omega
      | 3, _ => omega
  · intro h
    obtain ⟨h0, h1, h2, h3⟩ := vF_inj h
    unfold vecD; rw [h0, h1, h2, h3]
theorem vecElem_mk (A : Nat → Nat) : vecElem (vF A) = some (vecD A, []) := by
  unfold vecElem
  have h : ∃ B : Nat → Nat, vF A = vF B := ⟨A, rfl⟩
  rw [dif_pos h]
  have e := Classical.choose_spec h
  rw [vecD_iff.2 e]
theorem vecElem_inv {v : Value} {A : Nat → Nat} {ps : List MemPlace} (h : vecElem v = some (vecD A, ps)) : v = vF A := by
  unfold vecElem at h
  split at h
  · rename_i hx
    injection h with h
    injection h with h _
    rw [← vecD_iff.1 h]
    exact Classical.choose_spec hx
  · cases h
end Go.Dm
namespace Go.Proofs.YtopnllbfhhjobaaDoor
open Go.RowKit Go.Dm Go.Maps

theorem mapKeyed : Keyed Tryd.prog 9 := string_keyed Tryd.underlying9
theorem mapZero (w : World) : (zeroValue 36).run Tryd.prog w = .ok (vF fun _ => 0) w := by kernel_rfl

/-- A map that tells of each path an amount. -/
def MapG (w : World) (B n : Nat) (g : ByteArray → Nat → Nat) : Prop :=
  ∃ D : DataW Unit, w.ownsMap Tryd.prog 9 vecElem B n D ∧ IsMap D ∧ ∀ s, D.atKey (.string s.data.toList) (vecD fun _ => 0) = vecD (g s)
theorem MapG.lt {w : World} {B n : Nat} {g} (h : MapG w B n g) : B < w.heap.size := by obtain ⟨D, h1, _⟩ := h; exact h1.lt
theorem MapG.kept {w w' : World} {B n : Nat} {g} {row : Option Nat} (h : MapG w B n g) (hg : w.grownBy w' row) (hne : some B ≠ row) : MapG w' B n g := by
  obtain ⟨D, h1, h2, h3⟩ := h
  exact ⟨D, h1.kept hg hne, h2, h3⟩
theorem MapG.ext {w w' : World} {B n : Nat} {g} (h : MapG w B n g) (hx : Ext w w') : MapG w' B n g := by
  obtain ⟨D, h1, h2, h3⟩ := h
  refine ⟨D, ?_, h2, h3⟩
  obtain ⟨es, clock, hb, r⟩ := h1
  exact ⟨es, clock, by rw [hx.block B (Array.getElem?_eq_some_iff.1 hb).1]; exact hb, r⟩
theorem MapG.made (w : World) : MapG (w.alloc (.map #[] 0)) w.heap.size 0 fun _ _ => 0 :=
  ⟨.map [], World.ownsMap_made w _ _ _, isMap_empty, fun _ => rfl⟩
theorem MapG.look {w : World} {B n : Nat} {g} (h : MapG w B n g) {s : ByteArray} (hs : s.size ≤ maxLen) : (Instr.lookup 39 (.map (some B)) (.string s) false).run Tryd.prog w = .ok (vF (g s)) w := by
  obtain ⟨D, h1, _, h3⟩ := h
  obtain ⟨v, ps, hrun, hv⟩ := h1.lookup mapKeyed Tryd.underlying39 (mapZero w) (vecElem_mk _) (WideMaps.keyOf_string_mk (P := Tryd.prog) Tryd.underlying9 hs)
  rw [h3 s] at hv
  rw [hrun, vecElem_inv hv]
/-- What is put. -/
def putG (g : ByteArray → Nat → Nat) (s : ByteArray) (A : Nat → Nat) : ByteArray → Nat → Nat := fun t => if t = s then A else g t
theorem wpList_putG {w : World} {ops : Array Oper} {rest : List Oper} {o : Oper} {a : Act} {Q : Exit → Act → World → Prop} (hg : o.guard = none) (m x v : Operand) (hop : o.op = Op.mapUpdate 39 m x v)
    {B n : Nat} {g : ByteArray → Nat → Nat} (hm : a.eval m = .map (some B)) (hown : MapG w B n g) (hn : n < maxLen) {s : ByteArray} {A : Nat → Nat} (hs : s.size ≤ maxLen) (hx : a.eval x = .string s) (hv : a.eval v = vF A)
    (hK : ∀ w', MapG w' B (n + 1) (putG g s A) → w.grownBy w' (some B) → wpList Tryd.prog ops Q rest (a.put o.dst undef) w') : wpList Tryd.prog ops Q (o :: rest) a w := by
  obtain ⟨D, h1, h2, h3⟩ := hown
  refine wpList_mapUpdate_own w hg m x v _ hop 9 36 mapKeyed Tryd.underlying39 vecElem B n D hm h1 hn _ _ (.string s.data.toList) hx hv (WideMaps.keyOf_string_mk (P := Tryd.prog) Tryd.underlying9 hs) (vecD A) [] (vecElem_mk A) ?_
  intro w' h4 h5
  refine hK w' ⟨_, h4, h2.put _ _, fun t => ?_⟩ h5
  unfold putG
  by_cases e : t = s
  · subst e
    rw [if_pos rfl]
    exact atKey_put_same h2 (by first | exact trivial | rfl | simp [WideAt.IsKeyLit]) _ _
  · rw [if_neg e, atKey_put_other (fun h => e (mk_bytes (by injection h))), h3]
end Go.Proofs.YtopnllbfhhjobaaDoor
