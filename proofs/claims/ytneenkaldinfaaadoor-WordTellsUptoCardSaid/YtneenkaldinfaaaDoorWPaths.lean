/- WordPaths, walked: one to three names make a path, whose parts they are. -/
import Derived.Test.YtneenkaldinfaaaDoorWWalkE
import Derived.Test.YtneenkaldinfaaaDoorWPathL
import Derived.Test.YtneenkaldinfaaaDoorBRows
namespace Go.Dm
open Go Go.RowKit

/-- The names made of the rows, three at most. -/
def namesOf (L : List (List Int)) : List Bs := (L.take 3).map madeL
def byteOk (L : List (List Int)) : Prop := ∀ l ∈ L, l.length ≤ maxLen ∧ ∀ z ∈ l, 0 ≤ z ∧ z ≤ 255
def nameAt (N : List Bs) (k : Nat) : Bs := N.getD k []

theorem namesOf_len (L : List (List Int)) : (namesOf L).length = min L.length 3 := by simp [namesOf]; omega
theorem namesOf_at {L : List (List Int)} {k : Nat} (hk : k < (namesOf L).length) : nameAt (namesOf L) k = madeL (byteRow L k) := by
  rw [namesOf_len] at hk
  have h1 : k < L.length := by omega
  have h2 : k < 3 := by omega
  simp [nameAt, namesOf, byteRow, h1, h2]
theorem namesOf_name {L : List (List Int)} (h : byteOk L) : ∀ p ∈ namesOf L, Name p := by
  intro p hp
  obtain ⟨l, hl, rfl⟩ := List.mem_map.1 hp
  exact made_name l (fun z hz => ((h l (List.mem_of_mem_take hl)).2 z hz).1)
theorem namesOf_short {L : List (List Int)} : ∀ p ∈ namesOf L, p.length ≤ 31 := by
  intro p hp
  obtain ⟨l, hl, rfl⟩ := List.mem_map.1 hp
  exact madeL_len l
theorem byteRow_mem {L : List (List Int)} {k : Nat} (hk : k < L.length) : byteRow L k ∈ L := by
  simp only [byteRow, List.getD_eq_getElem?_getD, List.getElem?_eq_getElem hk, Option.getD_some]
  exact List.getElem_mem hk

theorem joinP_len : ∀ {ns : List Bs}, (∀ p ∈ ns, p.length ≤ 31) → (joinP ns).length ≤ 32 * ns.length
  | [], _ => by simp [joinP, Lib.join_nil]
  | [p], h => by rw [joinP_one]; have := h p (by simp); simp; omega
  | p :: q :: ns, h => by
    have h1 := h p (by simp)
    have h2 := joinP_len (ns := q :: ns) (fun x hx => h x (List.mem_cons_of_mem _ hx))
    rw [joinP_cons]
    simp only [List.length_append, List.length_cons] at *
    omega

theorem take_snocB {N : List Bs} {k : Nat} (hk : k < N.length) : N.take (k + 1) = N.take k ++ [nameAt N k] := by
  rw [List.take_succ_eq_append_getElem hk]
  simp [hk, nameAt]

theorem joinP_step0 {N : List Bs} (hk : 0 < N.length) : joinP (N.take 1) = nameAt N 0 := by
  rw [take_snocB hk, List.take_zero, List.nil_append, joinP_one]

theorem joinP_step {N : List Bs} {k : Nat} (h0 : 0 < k) (hk : k < N.length) : joinP (N.take (k + 1)) = joinP (N.take k) ++ 47 :: nameAt N k := by
  rw [take_snocB hk, joinP_snoc]
  intro h
  have : min k N.length = 0 := by simpa [List.length_take] using congrArg List.length h
  omega

theorem mk_bytes {x : ByteArray} {l : Bs} (h : x.data.toList = l) : x = ⟨l.toArray⟩ := by
  subst h
  cases x
  simp

theorem upB_bytes' (P : List Bs) (k : Nat) : bytesOf ((List.range k).map (upB P)) = (List.range k).map fun k => joinP (P.take (k + 1)) := by
  simp [bytesOf, upB, joinP, List.map_map, Function.comp_def]
theorem upB_def {P : List Bs} {k : Nat} {x : ByteArray} (h : x.data.toList = joinP (P.take (k + 1))) : x = upB P k := mk_bytes h
end Go.Dm
namespace Go.Proofs.YtneenkaldinfaaaDoor
open Go.RowKit Go.Dm

/-- What `made` answers, as one value. -/
def madeB (zs : List Int) : ByteArray := ⟨(madeL zs).toArray⟩

theorem made_v (zs : List Int) (v : Value) (w : World) (hz : ∀ z ∈ zs, 0 ≤ z ∧ z ≤ 255) (hm : zs.length ≤ maxLen) (hx : Nums w .u8 v zs) :
    Calls Tryd.prog 21 #[v] w fun e w' => e = .returned (.string (madeB zs)) ∧ Ext w w' := by
  refine (made_w zs v w hz hm hx).mono ?_
  rintro e w' ⟨r, rfl, ⟨s, rfl, hs⟩, hb⟩
  exact ⟨by rw [mk_bytes hs]; rfl, hb⟩

set_option maxHeartbeats 4000000 in
set_option maxRecDepth 100000 in
theorem paths_w (L : List (List Int)) (v : Value) (w : World) (hL : byteOk L) (hx : BRows w v L) (ht : Vars w) :
    Calls Tryd.prog 6 #[v] w fun e w' => e = .returned (.bool true) ∧ Ext w w' := by
  obtain ⟨q, cap, rfl, hcap, hcm⟩ := hx.shape
  have hN := namesOf_len L
  have hNn := namesOf_name hL
  have hNs := namesOf_short (L := L)
  have hNa := fun k (hk : k < (namesOf L).length) => namesOf_at hk
  have hjl : ∀ k, (joinP ((namesOf L).take k)).length ≤ 96 := fun k => by
    have := joinP_len (ns := (namesOf L).take k) (fun p hp => hNs p (List.mem_of_mem_take hp))
    rw [List.length_take] at this
    omega
  have hmin : min (L.length : Int) 3 = ((namesOf L).length : Int) := by rw [hN]; omega
  have hnL : (namesOf L).length ≤ L.length := by omega
  have hn3 : (namesOf L).length ≤ 3 := by omega
  clear hNs hN
  have hNa := Lib.hid hNa
  have hNn := Lib.hid hNn
  have hjl := Lib.hid hjl
  generalize namesOf L = N at *
  obtain ⟨n, hn⟩ : ∃ n, N.length = n := ⟨_, rfl⟩
  rw [hn] at hmin hnL hn3
  have hn := Lib.hid hn
  go_enter Tryd.func6, Tryd.ntmps6
  go_wp2_with fail
  refine (examples_w w ht).mono ?_; rintro e w1 ⟨rfl, e1⟩
  go_wp2
  clear hmin
  go_loopw [4, 5, 7] (fun p u i' wr => ∃ k : Nat, k ≤ n ∧ i' = .int .i64 k ∧ Ext w1 wr ∧ (∃ s, p = .string s ∧ s.data.toList = joinP (N.take k)) ∧ wr.ownsRow w1.heap.size 9 1 u k (((List.range k).map (upB N)).map .string)) (fun _ _ i' _ => n - (intOf i').toNat)
  case atStart => exact ⟨0, by omega, rfl, Ext.refl _, ⟨⟨#[]⟩, rfl, rfl⟩, World.ownsRow_nil _ _ _ _⟩
  case round =>
    obtain ⟨k, hk, rfl, hb, ⟨s, rfl, hs⟩, ho⟩ := hrel
    have hsl : s.size ≤ 96 := by rw [size_len, hs]; exact hjl.out k
    by_cases hlt : k < n
    · have hkL : k < L.length := by omega
      obtain ⟨b, off, u, rfl, hbl, c0, hu⟩ := (hx.ext (e1.trans hb)).at hkL
      have hzk := hL _ (byteRow_mem hkL)
      have CM := made_v (byteRow L k) u
      have hna : nameAt N k = madeL (byteRow L k) := hNa.out k (by rw [hn.out]; exact hlt)
      have htl : (madeB (byteRow L k)).size ≤ 31 := by rw [size_len]; exact madeL_len _
      have htd : (madeB (byteRow L k)).data.toList = nameAt N k := hna.symm
      clear hna
      have hk' : k < N.length := by rw [hn.out]; exact hlt
      by_cases hk0 : k = 0
      · subst hk0
        obtain rfl : s = ⟨#[]⟩ := mk_bytes hs
        rw [Nat.add_zero] at c0
        have hX := Lib.hid (show ((⟨#[]⟩ : ByteArray) ++ madeB (byteRow L 0)).data.toList = joinP (N.take (0 + 1)) by rw [data_append, htd, joinP_step0 hk']; rfl)
        clear hs htd
        go_wp2_with fail
        refine (CM wr hzk.2 hzk.1 hu).mono ?_; rintro e w2 ⟨rfl, h2⟩
        clear CM
        have hb2 := hb.trans h2
        have ho2 := Ext.row ho h2
        generalize madeB (byteRow L 0) = t at *
        have ho4 := Ext.row ho2 ((Ext.refl w2).alloc (.cells #[.string ((⟨#[]⟩ : ByteArray) ++ t)] 9))
        have hb4 := hb2.trans ((Ext.refl w2).alloc (.cells #[.string ((⟨#[]⟩ : ByteArray) ++ t)] 9))
        have hl4 := Sl.lit w2 9 1 1 #[.string ((⟨#[]⟩ : ByteArray) ++ t)] rfl (by simp [maxLen])
        go_wp2_with (at_builtin; refine wpList_appE rfl _ _ Tryd.slStr rfl hb4 rfl ho4 rfl hl4 (strs_one [(⟨#[]⟩ : ByteArray) ++ t]) (by omega) ?_; intro v5 w5 ho5 hb5 _)
        go_roundw
        case rel => exact ⟨1, by omega, rfl, hb5, ⟨_, rfl, hX.out⟩, by rw [upB_def hX.out] at ho5; exact ho5⟩
        case measure => simp [intOf]; omega
      · have hX := Lib.hid (show ((s ++ (⟨#[47]⟩ : ByteArray)) ++ madeB (byteRow L k)).data.toList = joinP (N.take (k + 1)) by rw [data_append, data_append, hs, htd, joinP_step (by omega) hk', List.append_assoc]; rfl)
        clear hs htd
        go_wp2_with fail
        refine (CM wr hzk.2 hzk.1 hu).mono ?_; rintro e w2 ⟨rfl, h2⟩
        clear CM
        have hb2 := hb.trans h2
        have ho2 := Ext.row ho h2
        generalize madeB (byteRow L k) = t at *
        have ho4 := Ext.row ho2 ((Ext.refl w2).alloc (.cells #[.string ((s ++ (⟨#[47]⟩ : ByteArray)) ++ t)] 9))
        have hb4 := hb2.trans ((Ext.refl w2).alloc (.cells #[.string ((s ++ (⟨#[47]⟩ : ByteArray)) ++ t)] 9))
        have hl4 := Sl.lit w2 9 1 1 #[.string ((s ++ (⟨#[47]⟩ : ByteArray)) ++ t)] rfl (by simp [maxLen])
        go_wp2_with (at_builtin; refine wpList_appE rfl _ _ Tryd.slStr rfl hb4 rfl ho4 rfl hl4 (strs_one [(s ++ (⟨#[47]⟩ : ByteArray)) ++ t]) (by omega) ?_; intro v5 w5 ho5 hb5 _)
        go_roundw
        case rel => exact ⟨k + 1, by omega, by go_num, hb5, ⟨_, rfl, hX.out⟩, by rw [upB_def hX.out, ← List.map_singleton, ← List.map_append, ← range_snoc_map] at ho5; exact ho5⟩
        case measure => simp [intOf]; omega
    · obtain rfl : k = n := by omega
      have hjn : N.take k = N := by rw [← hn.out, List.take_length]
      rw [hjn] at hs
      have hps := partsL_joinP (by rw [hn.out]; exact hn3) hNn.out
      have hus := upsL_joinP (by rw [hn.out]; exact hn3) hNn.out
      have hpb := partsL_behind hNn.out
      have hpa := partsL_ahead (joinP N)
      have hpm := fun h => partsL_more (ns := N) h (by rw [hn.out]; exact hn3) hNn.out
      rw [hn.out] at hpm
      rw [← hs] at hps hus hpb hpa hpm
      rw [show s.data.toList ++ [47] = (s ++ (⟨#[47]⟩ : ByteArray)).data.toList by rw [data_append]] at hpb
      rw [show 47 :: s.data.toList = ((⟨#[47]⟩ : ByteArray) ++ s).data.toList by rw [data_append]; rfl] at hpa
      rw [show s.data.toList ++ [47, 120] = (s ++ (⟨#[47, 120]⟩ : ByteArray)).data.toList by rw [data_append]] at hpm
      replace hps := Lib.hid hps
      replace hus := Lib.hid hus
      replace hpb := Lib.hid hpb
      replace hpa := Lib.hid hpa
      replace hpm := Lib.hid hpm
      clear hs hjn
      have f0 := e1.trans hb
      have hsr : Strs wr u5 ((List.range k).map (upB N)) := Strs.of_row ho (by simp)
      go_wp2_with fail
      refine (parts_w s wr (by omega) (ht.ext f0)).mono ?_; rintro e w3 ⟨r3, rfl, ⟨ss, hx3, hP3⟩, h3⟩
      have f3 := f0.trans h3
      rw [hps.out] at hP3
      obtain ⟨q3, cap3, rfl, hcap3, hcm3⟩ := hx3.shape
      have hl3 : ss.length = k := by rw [← hn.out, ← hP3]; simp [bytesOf]
      have hne : ((ss.length : Int) != (k : Int)) = false := by rw [hl3]; simp
      have hl3' : ss.length ≤ 3 := by omega
      have hl3k : k ≤ ss.length := by omega
      replace hl3 := Lib.hid hl3
      replace hP3 := Lib.hid hP3
      go_wp2_with fail
      refine (ups_w s w3 (by omega) (ht.ext f3)).mono ?_; rintro e w4 ⟨r4, rfl, ⟨us, hx4, hP4⟩, h4⟩
      have f4 := f3.trans h4
      rw [hus.out, hn.out, ← upB_bytes'] at hP4
      obtain rfl := bytesOf_inj hP4
      clear hP4
      go_wp2_with fail
      refine (same_w _ _ _ _ w4 (by simp; omega) hx4 (hsr.ext (h3.trans h4))).mono ?_; rintro e w5 ⟨rfl, h5⟩
      rw [decide_eq_true rfl]
      have f5 := f4.trans h5
      have hx5 := hx3.ext (h4.trans h5)
      clear hx3 hx4 hsr ho
      go_wp2
      go_loopw [9] (fun i' wr' => ∃ j : Nat, j ≤ k ∧ i' = .int .i64 j ∧ Ext w5 wr') (fun i' _ => k - (intOf i').toNat)
      case atStart => exact ⟨0, by omega, rfl, Ext.refl _⟩
      case round =>
        obtain ⟨j, hj, rfl, hbj⟩ := hrel
        by_cases hlt' : j < k
        · have hjs : j < ss.length := by omega
          obtain ⟨b, off, rfl, hbl, c0⟩ := (hx5.ext hbj).at hjs
          have fj := f5.trans hbj
          obtain ⟨b', off', u', rfl, hbl', c0', hu'⟩ := (hx.ext fj).at (show j < L.length by omega)
          have hzk := hL _ (byteRow_mem (show j < L.length by omega))
          have hv : madeB (byteRow L j) = strAt ss j := by
            refine (mk_bytes ?_).symm
            rw [← hNa.out j (by rw [hn.out]; exact hlt'), ← hP3.out]
            simp [nameAt, bytesOf, strAt, hjs]
          have CM : Hid (∀ U, Ext wr U → Calls Tryd.prog 21 #[u'] U fun e w' => e = .returned (.string (strAt ss j)) ∧ Ext U w') := by
            intro U hU
            rw [← hv]
            exact made_v (byteRow L j) u' U hzk.2 hzk.1 (hu'.ext hU)
          clear hv hzk
          generalize strAt ss j = t at *
          go_wp2_with fail
          refine Dm.wp_region_grow (by kernel_rfl) (by kernel_rfl) ?_
          repeat (go_big_quiet_step ((go_at_call 21; exact Calls.quietE (CM.out _ (ext_grow _ _)))))
          refine wpQuiet_nil ?_
          intro W hW'
          go_wp2
          go_roundw
          case rel => exact ⟨j + 1, by omega, by go_num, hbj.trans hW'⟩
          case measure => simp [intOf]; omega
        · obtain rfl : j = k := by omega
          have fj := f5.trans hbj
          clear hNa
          go_wp2_with fail
          refine (parts_w (s ++ (⟨#[47]⟩ : ByteArray)) wr (by rw [ByteArray.size_append]; show s.size + 1 < _; omega) (ht.ext fj)).mono ?_; rintro e w6 ⟨r6, rfl, ⟨s6, hx6, hP6⟩, h6⟩
          have f6 := fj.trans h6
          rw [hpb.out] at hP6
          obtain rfl : s6 = [] := bytesOf_inj hP6
          obtain ⟨q6, cap6, rfl, _, _⟩ := hx6.shape
          go_wp2_with fail
          refine (parts_w ((⟨#[47]⟩ : ByteArray) ++ s) w6 (by rw [ByteArray.size_append]; show 1 + s.size < _; omega) (ht.ext f6)).mono ?_; rintro e w7 ⟨r7, rfl, ⟨s7, hx7, hP7⟩, h7⟩
          have f7 := f6.trans h7
          rw [hpa.out] at hP7
          obtain rfl : s7 = [] := bytesOf_inj hP7
          obtain ⟨q7, cap7, rfl, _, _⟩ := hx7.shape
          by_cases hj0 : j = 0
          · subst hj0
            go_wp2
            go_ret
            exact ⟨rfl, f7⟩
          · have hjb : ((j : Int) == 0) = false := by rw [beq_eq_false_iff_ne]; omega
            have hm := hpm.out (by omega)
            go_wp2_with fail
            refine (parts_w (s ++ (⟨#[47, 120]⟩ : ByteArray)) w7 (by rw [ByteArray.size_append]; show s.size + 2 < _; omega) (ht.ext f7)).mono ?_; rintro e w8 ⟨r8, rfl, ⟨s8, hx8, hP8⟩, h8⟩
            have f8 := f7.trans h8
            rw [← hP8] at hm
            obtain ⟨q8, cap8, rfl, _, _⟩ := hx8.shape
            have hm : s8.length = if j < 3 then j + 1 else 0 := by simpa [bytesOf] using hm
            by_cases h3 : j < 3
            · rw [if_pos h3] at hm
              have hbb : ((s8.length : Int) == (j : Int) + 1) = true := by rw [beq_iff_eq, hm]; rfl
              clear hm
              have hd : decide ((j : Int) < 3) = true := by rw [decide_eq_true_eq]; omega
              go_wp2
              go_ret
              exact ⟨rfl, f8⟩
            · rw [if_neg h3] at hm
              have hbb : ((s8.length : Int) == (j : Int) + 1) = false := by rw [beq_eq_false_iff_ne, hm]; omega
              clear hm
              have hd : decide ((j : Int) < 3) = false := by rw [decide_eq_false_iff_not]; omega
              go_wp2
              go_ret
              exact ⟨rfl, f8⟩
end Go.Proofs.YtneenkaldinfaaaDoor
