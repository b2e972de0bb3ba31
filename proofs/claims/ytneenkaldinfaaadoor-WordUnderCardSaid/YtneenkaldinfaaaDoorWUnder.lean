/- WordUnder, walked: to be under is an order on paths. -/
import Derived.Test.YtneenkaldinfaaaDoorWWalkE
import Derived.Test.YtneenkaldinfaaaDoorWPathM
import Derived.Test.YtneenkaldinfaaaDoorWPaths
namespace Go.Dm
open Go Go.RowKit

def nmA (L : List (List Int)) (k : Nat) : Bs := if k < L.length then madeL (byteRow L k) else [113]
def nmB (L M : List (List Int)) (k : Nat) : Bs := if k < M.length then madeL (byteRow M k) else nmA L k

theorem name_q : Name [113] := ⟨by decide, by decide⟩
theorem nmA_name {L : List (List Int)} (h : byteOk L) (k : Nat) : Name (nmA L k) := by
  unfold nmA
  split
  · rename_i hk; exact made_name _ (fun z hz => ((h _ (byteRow_mem hk)).2 z hz).1)
  · exact name_q
theorem nmB_name {L M : List (List Int)} (h : byteOk L) (h' : byteOk M) (k : Nat) : Name (nmB L M k) := by
  unfold nmB
  split
  · rename_i hk; exact made_name _ (fun z hz => ((h' _ (byteRow_mem hk)).2 z hz).1)
  · exact nmA_name h k
theorem nmA_len (L : List (List Int)) (k : Nat) : (nmA L k).length ≤ 31 := by
  unfold nmA
  split
  · exact madeL_len _
  · simp
theorem nmB_len (L M : List (List Int)) (k : Nat) : (nmB L M k).length ≤ 31 := by
  unfold nmB
  split
  · exact madeL_len _
  · exact nmA_len L k

def three (f : Nat → Bs) : List Bs := [f 0, f 1, f 2]
theorem three_len (f : Nat → Bs) : (three f).length = 3 := rfl
theorem three_at (f : Nat → Bs) {k : Nat} (hk : k < 3) : nameAt (three f) k = f k := by
  match k, hk with
  | 0, _ => rfl
  | 1, _ => rfl
  | 2, _ => rfl
theorem three_all {f : Nat → Bs} {p : Bs → Prop} (h : ∀ k, p (f k)) : ∀ x ∈ three f, p x := by
  intro x hx
  simp only [three, List.mem_cons, List.mem_nil_iff, or_false] at hx
  rcases hx with rfl | rfl | rfl <;> exact h _

/-- The third path, while the others grow. -/
def zL (B : List Bs) (a k : Nat) : Bs := if k ≤ a then [] else joinP (B.take (a + 1))

theorem joinP_grow {N : List Bs} {k : Nat} (hk : k < N.length) {s t : Bs} (hs : s = joinP (N.take k)) (ht : t = nameAt N k) : (if k = 0 then t else s ++ 47 :: t) = joinP (N.take (k + 1)) := by
  subst hs ht
  split
  · rename_i h0; subst h0; exact (joinP_step0 hk).symm
  · exact (joinP_step (by omega) hk).symm

theorem grow0 {N : List Bs} {k : Nat} {xs t : ByteArray} (h0 : ¬ 0 < k) (hk : k < N.length) (hs : xs.data.toList = joinP (N.take k)) (ht : t.data.toList = nameAt N k) : (xs ++ t).data.toList = joinP (N.take (k + 1)) := by
  obtain rfl : k = 0 := by omega
  rw [data_append, hs, ht, joinP_step0 hk]; rfl
theorem growS {N : List Bs} {k : Nat} {xs t : ByteArray} (h0 : 0 < k) (hk : k < N.length) (hs : xs.data.toList = joinP (N.take k)) (ht : t.data.toList = nameAt N k) : ((xs ++ (⟨#[47]⟩ : ByteArray)) ++ t).data.toList = joinP (N.take (k + 1)) := by
  rw [data_append, data_append, hs, ht, joinP_step h0 hk, List.append_assoc]; rfl
theorem zL_at {B : List Bs} {a k : Nat} (h : k = a) {l : Bs} (hl : l = joinP (B.take (k + 1))) : l = zL B a (k + 1) := by
  subst h; rw [hl, zL, if_neg (by omega)]
theorem zL_off {B : List Bs} {a k : Nat} (h : ¬ k = a) {l : Bs} (hl : l = zL B a k) : l = zL B a (k + 1) := by
  rw [hl, zL, zL]
  by_cases h1 : k ≤ a
  · rw [if_pos h1, if_pos (by omega)]
  · rw [if_neg h1, if_neg (by omega)]
theorem nmA_in {L : List (List Int)} {k : Nat} (h : k < L.length) : nmA L k = madeL (byteRow L k) := by rw [nmA, if_pos h]
theorem nmA_out {L : List (List Int)} {k : Nat} (h : ¬ k < L.length) : nmA L k = [113] := by rw [nmA, if_neg h]
theorem nmB_in {L M : List (List Int)} {k : Nat} (h : k < M.length) : nmB L M k = madeL (byteRow M k) := by rw [nmB, if_pos h]
theorem nmB_out {L M : List (List Int)} {k : Nat} (h : ¬ k < M.length) : nmB L M k = nmA L k := by rw [nmB, if_neg h]

section
variable {A B : List Bs} (hA : ∀ p ∈ A, Name p) (hB : ∀ p ∈ B, Name p) (hlA : A.length = 3) (hlB : B.length = 3)

/-- What the law asks, of paths that begin two lists of three names. -/
structure UnderFacts (x z w : Bs) : Prop where
  xx : underL x x = true
  wx : underL w x = true
  xw : underL x w = (x == w)
  zwx : underL z w = true → underL z x = true
  both : underL z w = true → underL w z = true → z = w
  one : underL z x = true → underL z w = true ∨ underL w z = true
  nx : underL [] x = false
  xn : underL x [] = false

theorem take_ne {N : List Bs} {k : Nat} (h : 0 < N.length) : N.take (k + 1) ≠ [] := by
  intro h0
  have := congrArg List.length h0
  rw [List.length_take] at this
  simp at this
  rw [this] at h; simp at h

theorem bs_beq (a b : Bs) : (a == b) = decide (a = b) := by
  rw [Bool.eq_iff_iff]; simp

theorem under_facts {a b : Nat} (_ha : a < 3) (_hb : b < 3) (hA : ∀ p ∈ A, Name p) (hB : ∀ p ∈ B, Name p) (hlA : A.length = 3) (hlB : B.length = 3) :
    UnderFacts (joinP A) (joinP (B.take (a + 1))) (joinP (A.take (b + 1))) := by
  have nA : A ≠ [] := by intro h; rw [h] at hlA; cases hlA
  have pA : ∀ p ∈ A, (47 : UInt8) ∉ p := fun p hp => (hA p hp).plain
  have hAt : ∀ p ∈ A.take (b + 1), Name p := fun p hp => hA p (List.mem_of_mem_take hp)
  have hBt : ∀ p ∈ B.take (a + 1), Name p := fun p hp => hB p (List.mem_of_mem_take hp)
  have nAt : A.take (b + 1) ≠ [] := take_ne (by omega)
  have nBt : B.take (a + 1) ≠ [] := take_ne (by omega)
  have pAt : ∀ p ∈ A.take (b + 1), (47 : UInt8) ∉ p := fun p hp => (hAt p hp).plain
  have pBt : ∀ p ∈ B.take (a + 1), (47 : UInt8) ∉ p := fun p hp => (hBt p hp).plain
  have lA : A.length ≤ 3 := by omega
  have lAt : (A.take (b + 1)).length ≤ 3 := by rw [List.length_take]; omega
  have lBt : (B.take (a + 1)).length ≤ 3 := by rw [List.length_take]; omega
  have ixx := under_iff nA pA lA hA
  have iwx := under_iff nAt pAt lA hA
  have ixw := under_iff nA pA lAt hAt
  have izw := under_iff nBt pBt lAt hAt
  have izx := under_iff nBt pBt lA hA
  have iwz := under_iff nAt pAt lBt hBt
  refine ⟨ixx.2 (List.prefix_refl _), iwx.2 (List.take_prefix _ _), ?_, ?_, ?_, ?_, under_nil_left, under_nil_right⟩
  · rw [bs_beq, Bool.eq_iff_iff, ixw, decide_eq_true_eq]
    constructor
    · intro h
      have := h.eq_of_length_le (by rw [List.length_take]; omega)
      rw [← this]
    · intro h
      have := joinP_inj nA nAt pA pAt h
      exact this ▸ List.prefix_refl _
  · rw [izw, izx]
    exact fun h => h.trans (List.take_prefix _ _)
  · rw [izw, iwz]
    intro h1 h2
    rw [h1.eq_of_length_le h2.length_le]
  · rw [izx, izw, iwz]
    intro h
    rcases Nat.le_total (B.take (a + 1)).length (A.take (b + 1)).length with hl | hl
    · exact Or.inl (List.prefix_of_prefix_length_le h (List.take_prefix _ _) hl)
    · exact Or.inr (List.prefix_of_prefix_length_le (List.take_prefix _ _) h hl)
end
end Go.Dm
namespace Go.Proofs.YtneenkaldinfaaaDoor
open Go.RowKit Go.Dm

theorem mod3 {z : Int} (h : 0 ≤ z ∧ z ≤ 255) : ∃ a : Nat, a < 3 ∧ z.tmod 3 = (a : Int) ∧ z % 3 = (a : Int) := by
  have h1 := Int.tmod_lt_of_pos z (show (0 : Int) < 3 by omega)
  have h2 := Int.tmod_nonneg 3 h.1
  refine ⟨(z.tmod 3).toNat, by omega, by omega, ?_⟩
  rw [← Int.tmod_eq_emod_of_nonneg h.1]; omega

set_option maxHeartbeats 8000000 in
set_option maxRecDepth 100000 in
theorem wunder_w (L M : List (List Int)) (za zb : Int) (v u : Value) (w : World) (hL : byteOk L) (hx : BRows w v L) (hM : byteOk M) (hy : BRows w u M) (ra : 0 ≤ za ∧ za ≤ 255) (rb : 0 ≤ zb ∧ zb ≤ 255) (ht : Vars w) :
    Calls Tryd.prog 7 #[v, u, .int .u8 za, .int .u8 zb] w fun e w' => e = .returned (.bool true) ∧ Ext w w' := by
  obtain ⟨q, cap, rfl, hcap, hcm⟩ := hx.shape
  obtain ⟨q2, cap2, rfl, hcap2, hcm2⟩ := hy.shape
  obtain ⟨a, ha3, haq, haq'⟩ := mod3 ra
  obtain ⟨b, hb3, hbq, hbq'⟩ := mod3 rb
  have hLm : L.length ≤ maxLen := by omega
  have hMm : M.length ≤ maxLen := by omega
  unfold maxLen at hLm hMm hcm hcm2
  have nA := three_all (f := nmA L) (p := Name) (nmA_name hL)
  have nB := three_all (f := nmB L M) (p := Name) (nmB_name hL hM)
  have sA := three_all (f := nmA L) (p := fun p => p.length ≤ 31) (nmA_len L)
  have sB := three_all (f := nmB L M) (p := fun p => p.length ≤ 31) (nmB_len L M)
  have jA : ∀ k, (joinP ((three (nmA L)).take k)).length ≤ 96 := fun k => by
    have := joinP_len (ns := (three (nmA L)).take k) (fun p hp => sA p (List.mem_of_mem_take hp))
    rw [List.length_take, three_len] at this; omega
  have jB : ∀ k, (joinP ((three (nmB L M)).take k)).length ≤ 96 := fun k => by
    have := joinP_len (ns := (three (nmB L M)).take k) (fun p hp => sB p (List.mem_of_mem_take hp))
    rw [List.length_take, three_len] at this; omega
  have atA := fun k (hk : k < 3) => three_at (nmA L) hk
  have atB := fun k (hk : k < 3) => three_at (nmB L M) hk
  have lA := three_len (nmA L)
  have lB := three_len (nmB L M)
  clear sA sB
  replace nA := Lib.hid nA
  replace nB := Lib.hid nB
  replace jA := Lib.hid jA
  replace jB := Lib.hid jB
  replace atA := Lib.hid atA
  replace atB := Lib.hid atB
  replace lA := Lib.hid lA
  replace lB := Lib.hid lB
  go_enter Tryd.func7, Tryd.ntmps7
  go_wp2_with fail
  refine (examples_w w ht).mono ?_; rintro e w1 ⟨rfl, e1⟩
  go_wp2
  go_loopw [10, 11, 12, 13] (fun xs ys zs i' wr => ∃ k : Nat, k ≤ 3 ∧ i' = .int .i64 k ∧ Ext w1 wr ∧ (∃ s, xs = .string s ∧ Hid (s.data.toList = joinP ((three (nmA L)).take k))) ∧ (∃ s, ys = .string s ∧ Hid (s.data.toList = joinP ((three (nmB L M)).take k))) ∧
    (∃ s, zs = .string s ∧ Hid (s.data.toList = zL (three (nmB L M)) a k))) (fun _ _ _ i' _ => 3 - (intOf i').toNat)
  case atStart => exact ⟨0, by omega, rfl, Ext.refl _, ⟨⟨#[]⟩, rfl, rfl⟩, ⟨⟨#[]⟩, rfl, rfl⟩, ⟨⟨#[]⟩, rfl, by show _ = _; rw [zL, if_pos (by omega)]⟩⟩
  case round =>
    obtain ⟨k, hk, rfl, hb, ⟨xs, rfl, hX⟩, ⟨ys, rfl, hY⟩, ⟨zs, rfl, hZ⟩⟩ := hrel
    have xl : xs.size ≤ 96 := by rw [size_len, hX.out]; exact jA.out k
    have yl : ys.size ≤ 96 := by rw [size_len, hY.out]; exact jB.out k
    have f1 := e1.trans hb
    by_cases hk3 : k < 3
    · by_cases hk0 : 0 < k
      · by_cases hka : k = a
        · have hkb : ((k : Int) == (a : Int)) = true := by rw [beq_iff_eq]; omega
          replace hka := Lib.hid hka
          by_cases h1 : k < L.length
          · by_cases h2 : k < M.length
            · obtain ⟨bb, off, uu, rfl, hbl, c0, hu⟩ := (hx.ext (e1.trans hb)).at h1
              have hzk := hL _ (byteRow_mem h1)
              go_wp2_with fail
              refine (made_w (byteRow L k) uu _ hzk.2 hzk.1 hu).mono ?_; rintro e w2 ⟨_, rfl, ⟨t, rfl, htd⟩, h2'⟩
              have hb2 := hb.trans h2'
              have htA : Hid (t.data.toList = nmA L k) := by show _ = _; rw [htd, nmA_in h1]
              have tl : t.size ≤ 31 := by rw [size_len, htd]; exact madeL_len _
              clear htd hu hzk c0
              obtain ⟨bb2, off2, uu2, rfl, hbl2, c02, hu2⟩ := (hy.ext (e1.trans hb2)).at h2
              have hzk2 := hM _ (byteRow_mem h2)
              go_wp2_with fail
              refine (made_w (byteRow M k) uu2 _ hzk2.2 hzk2.1 hu2).mono ?_; rintro e w3 ⟨_, rfl, ⟨t2, rfl, htd2⟩, h3'⟩
              have hb3 := hb2.trans h3'
              have htB : Hid (t2.data.toList = nmB L M k) := by show _ = _; rw [htd2, nmB_in h2]
              have tl2 : t2.size ≤ 31 := by rw [size_len, htd2]; exact madeL_len _
              clear htd2 hu2 hzk2 c02
              have hXn := Lib.hid (growS (t := t) hk0 (by rw [lA.out]; exact hk3) hX.out (htA.out.trans (atA.out k hk3).symm))
              have hYn := Lib.hid (growS (t := t2) hk0 (by rw [lB.out]; exact hk3) hY.out (htB.out.trans (atB.out k hk3).symm))
              have hZn := Lib.hid (zL_at hka.out hYn.out)
              go_wp2
              go_roundw
              case rel => exact ⟨k + 1, by omega, by go_num, hb3, ⟨_, rfl, hXn⟩, ⟨_, rfl, hYn⟩, ⟨_, rfl, hZn⟩⟩
              case measure => simp [intOf]; omega
            · obtain ⟨bb, off, uu, rfl, hbl, c0, hu⟩ := (hx.ext (e1.trans hb)).at h1
              have hzk := hL _ (byteRow_mem h1)
              go_wp2_with fail
              refine (made_w (byteRow L k) uu _ hzk.2 hzk.1 hu).mono ?_; rintro e w2 ⟨_, rfl, ⟨t, rfl, htd⟩, h2'⟩
              have hb2 := hb.trans h2'
              have htA : Hid (t.data.toList = nmA L k) := by show _ = _; rw [htd, nmA_in h1]
              have tl : t.size ≤ 31 := by rw [size_len, htd]; exact madeL_len _
              clear htd hu hzk c0
              have htB : Hid (t.data.toList = nmB L M k) := by show _ = _; rw [htA.out, nmB_out h2]
              have hXn := Lib.hid (growS (t := t) hk0 (by rw [lA.out]; exact hk3) hX.out (htA.out.trans (atA.out k hk3).symm))
              have hYn := Lib.hid (growS (t := t) hk0 (by rw [lB.out]; exact hk3) hY.out (htB.out.trans (atB.out k hk3).symm))
              have hZn := Lib.hid (zL_at hka.out hYn.out)
              go_wp2
              go_roundw
              case rel => exact ⟨k + 1, by omega, by go_num, hb2, ⟨_, rfl, hXn⟩, ⟨_, rfl, hYn⟩, ⟨_, rfl, hZn⟩⟩
              case measure => simp [intOf]; omega
          · by_cases h2 : k < M.length
            · have htA : Hid ((⟨#[113]⟩ : ByteArray).data.toList = nmA L k) := by show _ = _; rw [nmA_out h1]
              obtain ⟨bb2, off2, uu2, rfl, hbl2, c02, hu2⟩ := (hy.ext (e1.trans hb)).at h2
              have hzk2 := hM _ (byteRow_mem h2)
              go_wp2_with fail
              refine (made_w (byteRow M k) uu2 _ hzk2.2 hzk2.1 hu2).mono ?_; rintro e w3 ⟨_, rfl, ⟨t2, rfl, htd2⟩, h3'⟩
              have hb3 := hb.trans h3'
              have htB : Hid (t2.data.toList = nmB L M k) := by show _ = _; rw [htd2, nmB_in h2]
              have tl2 : t2.size ≤ 31 := by rw [size_len, htd2]; exact madeL_len _
              clear htd2 hu2 hzk2 c02
              have hXn := Lib.hid (growS (t := (⟨#[113]⟩ : ByteArray)) hk0 (by rw [lA.out]; exact hk3) hX.out (htA.out.trans (atA.out k hk3).symm))
              have hYn := Lib.hid (growS (t := t2) hk0 (by rw [lB.out]; exact hk3) hY.out (htB.out.trans (atB.out k hk3).symm))
              have hZn := Lib.hid (zL_at hka.out hYn.out)
              go_wp2
              go_roundw
              case rel => exact ⟨k + 1, by omega, by go_num, hb3, ⟨_, rfl, hXn⟩, ⟨_, rfl, hYn⟩, ⟨_, rfl, hZn⟩⟩
              case measure => simp [intOf]; omega
            · have htA : Hid ((⟨#[113]⟩ : ByteArray).data.toList = nmA L k) := by show _ = _; rw [nmA_out h1]
              have htB : Hid ((⟨#[113]⟩ : ByteArray).data.toList = nmB L M k) := by show _ = _; rw [htA.out, nmB_out h2]
              have hXn := Lib.hid (growS (t := (⟨#[113]⟩ : ByteArray)) hk0 (by rw [lA.out]; exact hk3) hX.out (htA.out.trans (atA.out k hk3).symm))
              have hYn := Lib.hid (growS (t := (⟨#[113]⟩ : ByteArray)) hk0 (by rw [lB.out]; exact hk3) hY.out (htB.out.trans (atB.out k hk3).symm))
              have hZn := Lib.hid (zL_at hka.out hYn.out)
              go_wp2
              go_roundw
              case rel => exact ⟨k + 1, by omega, by go_num, hb, ⟨_, rfl, hXn⟩, ⟨_, rfl, hYn⟩, ⟨_, rfl, hZn⟩⟩
              case measure => simp [intOf]; omega
        · have hkb : ((k : Int) == (a : Int)) = false := by rw [beq_eq_false_iff_ne]; omega
          replace hka := Lib.hid hka
          by_cases h1 : k < L.length
          · by_cases h2 : k < M.length
            · obtain ⟨bb, off, uu, rfl, hbl, c0, hu⟩ := (hx.ext (e1.trans hb)).at h1
              have hzk := hL _ (byteRow_mem h1)
              go_wp2_with fail
              refine (made_w (byteRow L k) uu _ hzk.2 hzk.1 hu).mono ?_; rintro e w2 ⟨_, rfl, ⟨t, rfl, htd⟩, h2'⟩
              have hb2 := hb.trans h2'
              have htA : Hid (t.data.toList = nmA L k) := by show _ = _; rw [htd, nmA_in h1]
              have tl : t.size ≤ 31 := by rw [size_len, htd]; exact madeL_len _
              clear htd hu hzk c0
              obtain ⟨bb2, off2, uu2, rfl, hbl2, c02, hu2⟩ := (hy.ext (e1.trans hb2)).at h2
              have hzk2 := hM _ (byteRow_mem h2)
              go_wp2_with fail
              refine (made_w (byteRow M k) uu2 _ hzk2.2 hzk2.1 hu2).mono ?_; rintro e w3 ⟨_, rfl, ⟨t2, rfl, htd2⟩, h3'⟩
              have hb3 := hb2.trans h3'
              have htB : Hid (t2.data.toList = nmB L M k) := by show _ = _; rw [htd2, nmB_in h2]
              have tl2 : t2.size ≤ 31 := by rw [size_len, htd2]; exact madeL_len _
              clear htd2 hu2 hzk2 c02
              have hXn := Lib.hid (growS (t := t) hk0 (by rw [lA.out]; exact hk3) hX.out (htA.out.trans (atA.out k hk3).symm))
              have hYn := Lib.hid (growS (t := t2) hk0 (by rw [lB.out]; exact hk3) hY.out (htB.out.trans (atB.out k hk3).symm))
              have hZn := Lib.hid (zL_off hka.out hZ.out)
              go_wp2
              go_roundw
              case rel => exact ⟨k + 1, by omega, by go_num, hb3, ⟨_, rfl, hXn⟩, ⟨_, rfl, hYn⟩, ⟨_, rfl, hZn⟩⟩
              case measure => simp [intOf]; omega
            · obtain ⟨bb, off, uu, rfl, hbl, c0, hu⟩ := (hx.ext (e1.trans hb)).at h1
              have hzk := hL _ (byteRow_mem h1)
              go_wp2_with fail
              refine (made_w (byteRow L k) uu _ hzk.2 hzk.1 hu).mono ?_; rintro e w2 ⟨_, rfl, ⟨t, rfl, htd⟩, h2'⟩
              have hb2 := hb.trans h2'
              have htA : Hid (t.data.toList = nmA L k) := by show _ = _; rw [htd, nmA_in h1]
              have tl : t.size ≤ 31 := by rw [size_len, htd]; exact madeL_len _
              clear htd hu hzk c0
              have htB : Hid (t.data.toList = nmB L M k) := by show _ = _; rw [htA.out, nmB_out h2]
              have hXn := Lib.hid (growS (t := t) hk0 (by rw [lA.out]; exact hk3) hX.out (htA.out.trans (atA.out k hk3).symm))
              have hYn := Lib.hid (growS (t := t) hk0 (by rw [lB.out]; exact hk3) hY.out (htB.out.trans (atB.out k hk3).symm))
              have hZn := Lib.hid (zL_off hka.out hZ.out)
              go_wp2
              go_roundw
              case rel => exact ⟨k + 1, by omega, by go_num, hb2, ⟨_, rfl, hXn⟩, ⟨_, rfl, hYn⟩, ⟨_, rfl, hZn⟩⟩
              case measure => simp [intOf]; omega
          · by_cases h2 : k < M.length
            · have htA : Hid ((⟨#[113]⟩ : ByteArray).data.toList = nmA L k) := by show _ = _; rw [nmA_out h1]
              obtain ⟨bb2, off2, uu2, rfl, hbl2, c02, hu2⟩ := (hy.ext (e1.trans hb)).at h2
              have hzk2 := hM _ (byteRow_mem h2)
              go_wp2_with fail
              refine (made_w (byteRow M k) uu2 _ hzk2.2 hzk2.1 hu2).mono ?_; rintro e w3 ⟨_, rfl, ⟨t2, rfl, htd2⟩, h3'⟩
              have hb3 := hb.trans h3'
              have htB : Hid (t2.data.toList = nmB L M k) := by show _ = _; rw [htd2, nmB_in h2]
              have tl2 : t2.size ≤ 31 := by rw [size_len, htd2]; exact madeL_len _
              clear htd2 hu2 hzk2 c02
              have hXn := Lib.hid (growS (t := (⟨#[113]⟩ : ByteArray)) hk0 (by rw [lA.out]; exact hk3) hX.out (htA.out.trans (atA.out k hk3).symm))
              have hYn := Lib.hid (growS (t := t2) hk0 (by rw [lB.out]; exact hk3) hY.out (htB.out.trans (atB.out k hk3).symm))
              have hZn := Lib.hid (zL_off hka.out hZ.out)
              go_wp2
              go_roundw
              case rel => exact ⟨k + 1, by omega, by go_num, hb3, ⟨_, rfl, hXn⟩, ⟨_, rfl, hYn⟩, ⟨_, rfl, hZn⟩⟩
              case measure => simp [intOf]; omega
            · have htA : Hid ((⟨#[113]⟩ : ByteArray).data.toList = nmA L k) := by show _ = _; rw [nmA_out h1]
              have htB : Hid ((⟨#[113]⟩ : ByteArray).data.toList = nmB L M k) := by show _ = _; rw [htA.out, nmB_out h2]
              have hXn := Lib.hid (growS (t := (⟨#[113]⟩ : ByteArray)) hk0 (by rw [lA.out]; exact hk3) hX.out (htA.out.trans (atA.out k hk3).symm))
              have hYn := Lib.hid (growS (t := (⟨#[113]⟩ : ByteArray)) hk0 (by rw [lB.out]; exact hk3) hY.out (htB.out.trans (atB.out k hk3).symm))
              have hZn := Lib.hid (zL_off hka.out hZ.out)
              go_wp2
              go_roundw
              case rel => exact ⟨k + 1, by omega, by go_num, hb, ⟨_, rfl, hXn⟩, ⟨_, rfl, hYn⟩, ⟨_, rfl, hZn⟩⟩
              case measure => simp [intOf]; omega
      · by_cases hka : k = a
        · have hkb : ((k : Int) == (a : Int)) = true := by rw [beq_iff_eq]; omega
          replace hka := Lib.hid hka
          by_cases h1 : k < L.length
          · by_cases h2 : k < M.length
            · obtain ⟨bb, off, uu, rfl, hbl, c0, hu⟩ := (hx.ext (e1.trans hb)).at h1
              have hzk := hL _ (byteRow_mem h1)
              go_wp2_with fail
              refine (made_w (byteRow L k) uu _ hzk.2 hzk.1 hu).mono ?_; rintro e w2 ⟨_, rfl, ⟨t, rfl, htd⟩, h2'⟩
              have hb2 := hb.trans h2'
              have htA : Hid (t.data.toList = nmA L k) := by show _ = _; rw [htd, nmA_in h1]
              have tl : t.size ≤ 31 := by rw [size_len, htd]; exact madeL_len _
              clear htd hu hzk c0
              obtain ⟨bb2, off2, uu2, rfl, hbl2, c02, hu2⟩ := (hy.ext (e1.trans hb2)).at h2
              have hzk2 := hM _ (byteRow_mem h2)
              go_wp2_with fail
              refine (made_w (byteRow M k) uu2 _ hzk2.2 hzk2.1 hu2).mono ?_; rintro e w3 ⟨_, rfl, ⟨t2, rfl, htd2⟩, h3'⟩
              have hb3 := hb2.trans h3'
              have htB : Hid (t2.data.toList = nmB L M k) := by show _ = _; rw [htd2, nmB_in h2]
              have tl2 : t2.size ≤ 31 := by rw [size_len, htd2]; exact madeL_len _
              clear htd2 hu2 hzk2 c02
              have hXn := Lib.hid (grow0 (t := t) hk0 (by rw [lA.out]; exact hk3) hX.out (htA.out.trans (atA.out k hk3).symm))
              have hYn := Lib.hid (grow0 (t := t2) hk0 (by rw [lB.out]; exact hk3) hY.out (htB.out.trans (atB.out k hk3).symm))
              have hZn := Lib.hid (zL_at hka.out hYn.out)
              go_wp2
              go_roundw
              case rel => exact ⟨k + 1, by omega, by go_num, hb3, ⟨_, rfl, hXn⟩, ⟨_, rfl, hYn⟩, ⟨_, rfl, hZn⟩⟩
              case measure => simp [intOf]; omega
            · obtain ⟨bb, off, uu, rfl, hbl, c0, hu⟩ := (hx.ext (e1.trans hb)).at h1
              have hzk := hL _ (byteRow_mem h1)
              go_wp2_with fail
              refine (made_w (byteRow L k) uu _ hzk.2 hzk.1 hu).mono ?_; rintro e w2 ⟨_, rfl, ⟨t, rfl, htd⟩, h2'⟩
              have hb2 := hb.trans h2'
              have htA : Hid (t.data.toList = nmA L k) := by show _ = _; rw [htd, nmA_in h1]
              have tl : t.size ≤ 31 := by rw [size_len, htd]; exact madeL_len _
              clear htd hu hzk c0
              have htB : Hid (t.data.toList = nmB L M k) := by show _ = _; rw [htA.out, nmB_out h2]
              have hXn := Lib.hid (grow0 (t := t) hk0 (by rw [lA.out]; exact hk3) hX.out (htA.out.trans (atA.out k hk3).symm))
              have hYn := Lib.hid (grow0 (t := t) hk0 (by rw [lB.out]; exact hk3) hY.out (htB.out.trans (atB.out k hk3).symm))
              have hZn := Lib.hid (zL_at hka.out hYn.out)
              go_wp2
              go_roundw
              case rel => exact ⟨k + 1, by omega, by go_num, hb2, ⟨_, rfl, hXn⟩, ⟨_, rfl, hYn⟩, ⟨_, rfl, hZn⟩⟩
              case measure => simp [intOf]; omega
          · by_cases h2 : k < M.length
            · have htA : Hid ((⟨#[113]⟩ : ByteArray).data.toList = nmA L k) := by show _ = _; rw [nmA_out h1]
              obtain ⟨bb2, off2, uu2, rfl, hbl2, c02, hu2⟩ := (hy.ext (e1.trans hb)).at h2
              have hzk2 := hM _ (byteRow_mem h2)
              go_wp2_with fail
              refine (made_w (byteRow M k) uu2 _ hzk2.2 hzk2.1 hu2).mono ?_; rintro e w3 ⟨_, rfl, ⟨t2, rfl, htd2⟩, h3'⟩
              have hb3 := hb.trans h3'
              have htB : Hid (t2.data.toList = nmB L M k) := by show _ = _; rw [htd2, nmB_in h2]
              have tl2 : t2.size ≤ 31 := by rw [size_len, htd2]; exact madeL_len _
              clear htd2 hu2 hzk2 c02
              have hXn := Lib.hid (grow0 (t := (⟨#[113]⟩ : ByteArray)) hk0 (by rw [lA.out]; exact hk3) hX.out (htA.out.trans (atA.out k hk3).symm))
              have hYn := Lib.hid (grow0 (t := t2) hk0 (by rw [lB.out]; exact hk3) hY.out (htB.out.trans (atB.out k hk3).symm))
              have hZn := Lib.hid (zL_at hka.out hYn.out)
              go_wp2
              go_roundw
              case rel => exact ⟨k + 1, by omega, by go_num, hb3, ⟨_, rfl, hXn⟩, ⟨_, rfl, hYn⟩, ⟨_, rfl, hZn⟩⟩
              case measure => simp [intOf]; omega
            · have htA : Hid ((⟨#[113]⟩ : ByteArray).data.toList = nmA L k) := by show _ = _; rw [nmA_out h1]
              have htB : Hid ((⟨#[113]⟩ : ByteArray).data.toList = nmB L M k) := by show _ = _; rw [htA.out, nmB_out h2]
              have hXn := Lib.hid (grow0 (t := (⟨#[113]⟩ : ByteArray)) hk0 (by rw [lA.out]; exact hk3) hX.out (htA.out.trans (atA.out k hk3).symm))
              have hYn := Lib.hid (grow0 (t := (⟨#[113]⟩ : ByteArray)) hk0 (by rw [lB.out]; exact hk3) hY.out (htB.out.trans (atB.out k hk3).symm))
              have hZn := Lib.hid (zL_at hka.out hYn.out)
              go_wp2
              go_roundw
              case rel => exact ⟨k + 1, by omega, by go_num, hb, ⟨_, rfl, hXn⟩, ⟨_, rfl, hYn⟩, ⟨_, rfl, hZn⟩⟩
              case measure => simp [intOf]; omega
        · have hkb : ((k : Int) == (a : Int)) = false := by rw [beq_eq_false_iff_ne]; omega
          replace hka := Lib.hid hka
          by_cases h1 : k < L.length
          · by_cases h2 : k < M.length
            · obtain ⟨bb, off, uu, rfl, hbl, c0, hu⟩ := (hx.ext (e1.trans hb)).at h1
              have hzk := hL _ (byteRow_mem h1)
              go_wp2_with fail
              refine (made_w (byteRow L k) uu _ hzk.2 hzk.1 hu).mono ?_; rintro e w2 ⟨_, rfl, ⟨t, rfl, htd⟩, h2'⟩
              have hb2 := hb.trans h2'
              have htA : Hid (t.data.toList = nmA L k) := by show _ = _; rw [htd, nmA_in h1]
              have tl : t.size ≤ 31 := by rw [size_len, htd]; exact madeL_len _
              clear htd hu hzk c0
              obtain ⟨bb2, off2, uu2, rfl, hbl2, c02, hu2⟩ := (hy.ext (e1.trans hb2)).at h2
              have hzk2 := hM _ (byteRow_mem h2)
              go_wp2_with fail
              refine (made_w (byteRow M k) uu2 _ hzk2.2 hzk2.1 hu2).mono ?_; rintro e w3 ⟨_, rfl, ⟨t2, rfl, htd2⟩, h3'⟩
              have hb3 := hb2.trans h3'
              have htB : Hid (t2.data.toList = nmB L M k) := by show _ = _; rw [htd2, nmB_in h2]
              have tl2 : t2.size ≤ 31 := by rw [size_len, htd2]; exact madeL_len _
              clear htd2 hu2 hzk2 c02
              have hXn := Lib.hid (grow0 (t := t) hk0 (by rw [lA.out]; exact hk3) hX.out (htA.out.trans (atA.out k hk3).symm))
              have hYn := Lib.hid (grow0 (t := t2) hk0 (by rw [lB.out]; exact hk3) hY.out (htB.out.trans (atB.out k hk3).symm))
              have hZn := Lib.hid (zL_off hka.out hZ.out)
              go_wp2
              go_roundw
              case rel => exact ⟨k + 1, by omega, by go_num, hb3, ⟨_, rfl, hXn⟩, ⟨_, rfl, hYn⟩, ⟨_, rfl, hZn⟩⟩
              case measure => simp [intOf]; omega
            · obtain ⟨bb, off, uu, rfl, hbl, c0, hu⟩ := (hx.ext (e1.trans hb)).at h1
              have hzk := hL _ (byteRow_mem h1)
              go_wp2_with fail
              refine (made_w (byteRow L k) uu _ hzk.2 hzk.1 hu).mono ?_; rintro e w2 ⟨_, rfl, ⟨t, rfl, htd⟩, h2'⟩
              have hb2 := hb.trans h2'
              have htA : Hid (t.data.toList = nmA L k) := by show _ = _; rw [htd, nmA_in h1]
              have tl : t.size ≤ 31 := by rw [size_len, htd]; exact madeL_len _
              clear htd hu hzk c0
              have htB : Hid (t.data.toList = nmB L M k) := by show _ = _; rw [htA.out, nmB_out h2]
              have hXn := Lib.hid (grow0 (t := t) hk0 (by rw [lA.out]; exact hk3) hX.out (htA.out.trans (atA.out k hk3).symm))
              have hYn := Lib.hid (grow0 (t := t) hk0 (by rw [lB.out]; exact hk3) hY.out (htB.out.trans (atB.out k hk3).symm))
              have hZn := Lib.hid (zL_off hka.out hZ.out)
              go_wp2
              go_roundw
              case rel => exact ⟨k + 1, by omega, by go_num, hb2, ⟨_, rfl, hXn⟩, ⟨_, rfl, hYn⟩, ⟨_, rfl, hZn⟩⟩
              case measure => simp [intOf]; omega
          · by_cases h2 : k < M.length
            · have htA : Hid ((⟨#[113]⟩ : ByteArray).data.toList = nmA L k) := by show _ = _; rw [nmA_out h1]
              obtain ⟨bb2, off2, uu2, rfl, hbl2, c02, hu2⟩ := (hy.ext (e1.trans hb)).at h2
              have hzk2 := hM _ (byteRow_mem h2)
              go_wp2_with fail
              refine (made_w (byteRow M k) uu2 _ hzk2.2 hzk2.1 hu2).mono ?_; rintro e w3 ⟨_, rfl, ⟨t2, rfl, htd2⟩, h3'⟩
              have hb3 := hb.trans h3'
              have htB : Hid (t2.data.toList = nmB L M k) := by show _ = _; rw [htd2, nmB_in h2]
              have tl2 : t2.size ≤ 31 := by rw [size_len, htd2]; exact madeL_len _
              clear htd2 hu2 hzk2 c02
              have hXn := Lib.hid (grow0 (t := (⟨#[113]⟩ : ByteArray)) hk0 (by rw [lA.out]; exact hk3) hX.out (htA.out.trans (atA.out k hk3).symm))
              have hYn := Lib.hid (grow0 (t := t2) hk0 (by rw [lB.out]; exact hk3) hY.out (htB.out.trans (atB.out k hk3).symm))
              have hZn := Lib.hid (zL_off hka.out hZ.out)
              go_wp2
              go_roundw
              case rel => exact ⟨k + 1, by omega, by go_num, hb3, ⟨_, rfl, hXn⟩, ⟨_, rfl, hYn⟩, ⟨_, rfl, hZn⟩⟩
              case measure => simp [intOf]; omega
            · have htA : Hid ((⟨#[113]⟩ : ByteArray).data.toList = nmA L k) := by show _ = _; rw [nmA_out h1]
              have htB : Hid ((⟨#[113]⟩ : ByteArray).data.toList = nmB L M k) := by show _ = _; rw [htA.out, nmB_out h2]
              have hXn := Lib.hid (grow0 (t := (⟨#[113]⟩ : ByteArray)) hk0 (by rw [lA.out]; exact hk3) hX.out (htA.out.trans (atA.out k hk3).symm))
              have hYn := Lib.hid (grow0 (t := (⟨#[113]⟩ : ByteArray)) hk0 (by rw [lB.out]; exact hk3) hY.out (htB.out.trans (atB.out k hk3).symm))
              have hZn := Lib.hid (zL_off hka.out hZ.out)
              go_wp2
              go_roundw
              case rel => exact ⟨k + 1, by omega, by go_num, hb, ⟨_, rfl, hXn⟩, ⟨_, rfl, hYn⟩, ⟨_, rfl, hZn⟩⟩
              case measure => simp [intOf]; omega
    · obtain rfl : k = 3 := by omega
      have hXf : xs.data.toList = joinP (three (nmA L)) := by rw [hX.out]; rfl
      have hZf : zs.data.toList = joinP ((three (nmB L M)).take (a + 1)) := by rw [hZ.out, zL, if_neg (by omega)]
      have hF := under_facts ha3 hb3 nA.out nB.out lA.out lB.out
      have hU := upsL_joinP (by rw [lA.out]; decide) nA.out
      have jb := jA.out (b + 1)
      have jz := jB.out (a + 1)
      rw [← hXf, ← hZf] at hF
      rw [← hXf] at hU
      rw [← hZf, ← size_len] at jz
      replace hF := Lib.hid hF
      replace hU := Lib.hid hU
      clear hX hY hZ hXf hZf
      go_wp2_with fail
      refine (ups_w xs wr (by omega) (ht.ext f1)).mono ?_; rintro e w3 ⟨r3, rfl, ⟨us, hx3, hP3⟩, h3⟩
      have f3 := f1.trans h3
      rw [hU.out, ← upB_bytes'] at hP3
      obtain rfl := bytesOf_inj hP3
      rw [lA.out] at hx3
      clear hP3
      obtain ⟨q3, cap3, rfl, hcap3, hcm3⟩ := hx3.shape
      obtain ⟨bb, off, rfl, hbl, c0⟩ := hx3.at (k := b) (by simpa using hb3)
      have hWd : (strAt ((List.range 3).map (upB (three (nmA L)))) b).data.toList = joinP ((three (nmA L)).take (b + 1)) := by
        simp [strAt, hb3, upB, joinP]
      have hWl : (strAt ((List.range 3).map (upB (three (nmA L)))) b).size ≤ 96 := by rw [size_len, hWd]; exact jb
      have F : Hid (UnderFacts xs.data.toList zs.data.toList (strAt ((List.range 3).map (upB (three (nmA L)))) b).data.toList) := by rw [hWd]; exact hF
      have hle : ((List.range 3).map (upB (three (nmA L)))).length = 3 := by simp
      generalize strAt ((List.range 3).map (upB (three (nmA L)))) b = W at *
      rw [hle] at hx3
      clear hWd hF hU hle hx3
      have hzw : ∀ (c : Bool), (zs.data.toList == W.data.toList) = c → (zs.toList == W.toList) = c := fun c h => by rw [ByteArray.toList_eq, ByteArray.toList_eq]; exact h
      obtain ⟨p, hp⟩ : ∃ p, underL zs.data.toList xs.data.toList = p := ⟨_, rfl⟩
      obtain ⟨q, hq⟩ : ∃ q, underL zs.data.toList W.data.toList = q := ⟨_, rfl⟩
      obtain ⟨r, hr⟩ : ∃ r, underL W.data.toList zs.data.toList = r := ⟨_, rfl⟩
      have F3 := F.out.zwx
      have F4 := F.out.both
      have F5 := F.out.one
      rw [hq, hp] at F3
      rw [hq, hr] at F4
      rw [hp, hq, hr] at F5
      have F2 := F.out.xw
      have hE : (xs.toList == W.toList) = (xs.data.toList == W.data.toList) := by rw [ByteArray.toList_eq, ByteArray.toList_eq]
      generalize (xs.data.toList == W.data.toList) = E at F2 hE
      replace F2 := Lib.hid F2
      replace hp := Lib.hid hp
      replace hq := Lib.hid hq
      replace F3 := Lib.hid F3
      replace F4 := Lib.hid F4
      replace F5 := Lib.hid F5
      replace hr := Lib.hid hr
      go_wp2_with fail
      refine (under_w xs xs w3 (by omega) (ht.ext f3)).mono ?_; rintro e v10 ⟨rfl, y10⟩
      have f10 := f3.trans y10
      rw [F.out.xx]
      go_wp2_with fail
      refine (under_w W xs v10 (by omega) (ht.ext f10)).mono ?_; rintro e v11 ⟨rfl, y11⟩
      have f11 := f10.trans y11
      rw [F.out.wx]
      go_wp2_with fail
      refine (under_w xs W v11 (by omega) (ht.ext f11)).mono ?_; rintro e v12 ⟨rfl, y12⟩
      have f12 := f11.trans y12
      rw [F2.out]
      cases E
      all_goals
        cases q with
        | false =>
          clear F3 F4
          go_wp2_with fail
          refine (under_w zs W v12 (by omega) (ht.ext f12)).mono ?_; rintro e v13 ⟨rfl, y13⟩
          have f13 := f12.trans y13
          rw [hq.out]
          go_wp2_with fail
          refine (under_w zs W v13 (by omega) (ht.ext f13)).mono ?_; rintro e v14 ⟨rfl, y14⟩
          have f14 := f13.trans y14
          rw [hq.out]
          cases p with
          | false =>
            go_wp2_with fail
            refine (under_w zs xs v14 (by omega) (ht.ext f14)).mono ?_; rintro e v15 ⟨rfl, y15⟩
            have f15 := f14.trans y15
            rw [hp.out]
            go_wp2_with fail
            refine (under_w (⟨#[]⟩ : ByteArray) xs v15 (by omega) (ht.ext f15)).mono ?_; rintro e v16 ⟨rfl, y16⟩
            have f16 := f15.trans y16
            rw [show underL (⟨#[]⟩ : ByteArray).data.toList xs.data.toList = false from F.out.nx]
            go_wp2_with fail
            refine (under_w xs (⟨#[]⟩ : ByteArray) v16 (by decide) (ht.ext f16)).mono ?_; rintro e v17 ⟨rfl, y17⟩
            have f17 := f16.trans y17
            rw [show underL xs.data.toList (⟨#[]⟩ : ByteArray).data.toList = false from F.out.xn]
            go_wp2
            go_ret
            exact ⟨rfl, f17⟩
          | true =>
            obtain rfl : r = true := by simpa using F5.out rfl
            clear F5
            go_wp2_with fail
            refine (under_w zs xs v14 (by omega) (ht.ext f14)).mono ?_; rintro e v18 ⟨rfl, y18⟩
            have f18 := f14.trans y18
            rw [hp.out]
            go_wp2_with fail
            refine (under_w zs W v18 (by omega) (ht.ext f18)).mono ?_; rintro e v19 ⟨rfl, y19⟩
            have f19 := f18.trans y19
            rw [hq.out]
            go_wp2_with fail
            refine (under_w W zs v19 (by omega) (ht.ext f19)).mono ?_; rintro e v20 ⟨rfl, y20⟩
            have f20 := f19.trans y20
            rw [hr.out]
            go_wp2_with fail
            refine (under_w (⟨#[]⟩ : ByteArray) xs v20 (by omega) (ht.ext f20)).mono ?_; rintro e v21 ⟨rfl, y21⟩
            have f21 := f20.trans y21
            rw [show underL (⟨#[]⟩ : ByteArray).data.toList xs.data.toList = false from F.out.nx]
            go_wp2_with fail
            refine (under_w xs (⟨#[]⟩ : ByteArray) v21 (by decide) (ht.ext f21)).mono ?_; rintro e v22 ⟨rfl, y22⟩
            have f22 := f21.trans y22
            rw [show underL xs.data.toList (⟨#[]⟩ : ByteArray).data.toList = false from F.out.xn]
            go_wp2
            go_ret
            exact ⟨rfl, f22⟩
        | true =>
          obtain rfl : p = true := F3.out rfl
          clear F3 F5
          replace F4 := Lib.hid (F4.out rfl)
          go_wp2_with fail
          refine (under_w zs W v12 (by omega) (ht.ext f12)).mono ?_; rintro e v23 ⟨rfl, y23⟩
          have f23 := f12.trans y23
          rw [hq.out]
          go_wp2_with fail
          refine (under_w zs xs v23 (by omega) (ht.ext f23)).mono ?_; rintro e v24 ⟨rfl, y24⟩
          have f24 := f23.trans y24
          rw [hp.out]
          go_wp2_with fail
          refine (under_w zs W v24 (by omega) (ht.ext f24)).mono ?_; rintro e v25 ⟨rfl, y25⟩
          have f25 := f24.trans y25
          rw [hq.out]
          cases r with
          | false =>
            clear F4
            go_wp2_with fail
            refine (under_w W zs v25 (by omega) (ht.ext f25)).mono ?_; rintro e v26 ⟨rfl, y26⟩
            have f26 := f25.trans y26
            rw [hr.out]
            go_wp2_with fail
            refine (under_w zs xs v26 (by omega) (ht.ext f26)).mono ?_; rintro e v27 ⟨rfl, y27⟩
            have f27 := f26.trans y27
            rw [hp.out]
            go_wp2_with fail
            refine (under_w zs W v27 (by omega) (ht.ext f27)).mono ?_; rintro e v28 ⟨rfl, y28⟩
            have f28 := f27.trans y28
            rw [hq.out]
            go_wp2_with fail
            refine (under_w (⟨#[]⟩ : ByteArray) xs v28 (by omega) (ht.ext f28)).mono ?_; rintro e v29 ⟨rfl, y29⟩
            have f29 := f28.trans y29
            rw [show underL (⟨#[]⟩ : ByteArray).data.toList xs.data.toList = false from F.out.nx]
            go_wp2_with fail
            refine (under_w xs (⟨#[]⟩ : ByteArray) v29 (by decide) (ht.ext f29)).mono ?_; rintro e v30 ⟨rfl, y30⟩
            have f30 := f29.trans y30
            rw [show underL xs.data.toList (⟨#[]⟩ : ByteArray).data.toList = false from F.out.xn]
            go_wp2
            go_ret
            exact ⟨rfl, f30⟩
          | true =>
            obtain rfl : zs = W := (mk_bytes (F4.out rfl)).trans (mk_bytes rfl).symm
            clear F4
            go_wp2_with fail
            refine (under_w zs zs v25 (by omega) (ht.ext f25)).mono ?_; rintro e v31 ⟨rfl, y31⟩
            have f31 := f25.trans y31
            rw [hr.out]
            go_wp2_with fail
            refine (under_w zs xs v31 (by omega) (ht.ext f31)).mono ?_; rintro e v32 ⟨rfl, y32⟩
            have f32 := f31.trans y32
            rw [hp.out]
            go_wp2_with fail
            refine (under_w zs zs v32 (by omega) (ht.ext f32)).mono ?_; rintro e v33 ⟨rfl, y33⟩
            have f33 := f32.trans y33
            rw [hq.out]
            go_wp2_with fail
            refine (under_w (⟨#[]⟩ : ByteArray) xs v33 (by omega) (ht.ext f33)).mono ?_; rintro e v34 ⟨rfl, y34⟩
            have f34 := f33.trans y34
            rw [show underL (⟨#[]⟩ : ByteArray).data.toList xs.data.toList = false from F.out.nx]
            go_wp2_with fail
            refine (under_w xs (⟨#[]⟩ : ByteArray) v34 (by decide) (ht.ext f34)).mono ?_; rintro e v35 ⟨rfl, y35⟩
            have f35 := f34.trans y35
            rw [show underL xs.data.toList (⟨#[]⟩ : ByteArray).data.toList = false from F.out.xn]
            go_wp2
            go_ret
            exact ⟨rfl, f35⟩
end Go.Proofs.YtneenkaldinfaaaDoor
