/- WordOnce, walked: a path's parts, slashes between, are it; each is a name without a slash; what is none has none. -/
import Derived.Test.YtneenkaldinfaaaDoorWWalkE
import Derived.Test.YtneenkaldinfaaaDoorWPathM
import Derived.Test.YtneenkaldinfaaaDoorWPaths
namespace Go.Dm
open Go Go.RowKit
theorem joinP_parts_len (l : Bs) (k : Nat) : (joinP ((partsL l).take k)).length ≤ l.length := parts_join_len l k

theorem byte_plain {t : ByteArray} (h : (47 : UInt8) ∉ t.data.toList) {j : Nat} (hj : j < t.size) : ((t[j].toNat : Int) == 47) = false := by
  rw [beq_eq_false_iff_ne]
  intro e
  apply h
  have e2 : t[j] = 47 := UInt8.toNat_inj.1 (by simpa using Int.ofNat_inj.1 e)
  rw [← e2]
  exact Array.getElem_mem_toList _

theorem strAt_bytes {ss : List ByteArray} {N : List Bs} (h : bytesOf ss = N) {k : Nat} (hk : k < ss.length) : (strAt ss k).data.toList = nameAt N k := by
  subst h
  simp [nameAt, bytesOf, strAt, hk]
theorem nameAt_mem {N : List Bs} {k : Nat} (hk : k < N.length) : nameAt N k ∈ N := by
  simp only [nameAt, List.getD_eq_getElem?_getD, List.getElem?_eq_getElem hk, Option.getD_some]
  exact List.getElem_mem hk
end Go.Dm
namespace Go.Proofs.YtneenkaldinfaaaDoor
open Go.RowKit Go.Dm

set_option maxHeartbeats 4000000 in
set_option maxRecDepth 100000 in
theorem once_w (s : ByteArray) (w : World) (hs : s.size ≤ 1048576) (ht : Vars w) :
    Calls Tryd.prog 8 #[.string s] w fun e w' => e = .returned (.bool true) ∧ Ext w w' := by
  have hsl : s.data.toList.length ≤ 1048576 := by rw [← size_len]; exact hs
  go_enter Tryd.func8, Tryd.ntmps8
  go_wp2_with fail
  refine (examples_w w ht).mono ?_; rintro e w1 ⟨rfl, e1⟩
  go_wp2_with fail
  refine (parts_w s w1 (by omega) (ht.ext e1)).mono ?_; rintro e w2 ⟨r2, rfl, ⟨ss, hx, hP⟩, h2⟩
  have e2 := e1.trans h2
  have hn3 : ss.length ≤ 3 := by have := partsL_three s.data.toList; rw [← hP] at this; simpa [bytesOf] using this
  have hlp : (partsL s.data.toList).length = ss.length := by rw [← hP]; simp [bytesOf]
  have hjl := joinP_parts_len s.data.toList
  have hnm := partsL_names (l := s.data.toList)
  have hrt := right_one s.data.toList
  have hjn := partsL_join (l := s.data.toList)
  have hus := under_self (l := s.data.toList)
  have huz := under_none (a := s.data.toList) (l := s.data.toList)
  rw [hlp] at hrt
  have hul : (upsL s.data.toList).length = ss.length := by rw [upsL_len, hlp]
  obtain ⟨q, cap, rfl, hcap, hcm⟩ := hx.shape
  replace hP := Lib.hid hP
  replace hlp := Lib.hid hlp
  replace hjl := Lib.hid hjl
  replace hnm := Lib.hid hnm
  replace hrt := Lib.hid hrt
  replace hjn := Lib.hid hjn
  replace hus := Lib.hid hus
  replace huz := Lib.hid huz
  replace hul := Lib.hid hul
  go_wp2
  go_loopw [5, 6] (fun p i' wr => ∃ k : Nat, k ≤ ss.length ∧ i' = .int .i64 k ∧ Ext w2 wr ∧ ∃ b, p = .string b ∧ Hid (b.data.toList = joinP ((partsL s.data.toList).take k))) (fun _ i' _ => ss.length - (intOf i').toNat)
  case atStart => exact ⟨0, by omega, rfl, Ext.refl _, ⟨#[]⟩, rfl, rfl⟩
  case round =>
    obtain ⟨k, hk, rfl, hb, b, rfl, hbb⟩ := hrel
    have hbs : b.size ≤ 1048576 := by rw [size_len, hbb.out]; exact Nat.le_trans (hjl.out k) hsl
    by_cases hlt : k < ss.length
    · have fr := e2.trans hb
      obtain ⟨bb, off, rfl, hbl, c0⟩ := (hx.ext hb).at hlt
      have hkp : k < (partsL s.data.toList).length := by rw [hlp.out]; exact hlt
      have htd := strAt_bytes hP.out hlt
      have hN := hnm.out _ (nameAt_mem hkp)
      rw [← htd] at hN
      have htl : (strAt ss k).size ≤ 1048576 := by
        have h1 := hjl.out (k + 1)
        rw [size_len, htd]
        by_cases h0 : k = 0
        · subst h0; rw [joinP_step0 hkp] at h1; omega
        · rw [joinP_step (by omega) hkp] at h1
          simp only [List.length_append, List.length_cons] at h1; omega
      have hbp : ∀ j (h : j < (strAt ss k).size), (((strAt ss k)[j].toNat : Int) == 47) = false := fun j h => byte_plain hN.plain h
      replace hbp := Lib.hid hbp
      have hst : Hid (∀ x : ByteArray, x.data.toList = (if k = 0 then [] else b.data.toList ++ [47]) ++ (strAt ss k).data.toList → x.data.toList = joinP ((partsL s.data.toList).take (k + 1))) := by
        intro x hx
        rw [hx, htd]
        by_cases h0 : k = 0
        · subst h0; rw [joinP_step0 hkp]; rfl
        · rw [if_neg h0, joinP_step (by omega) hkp, hbb.out, List.append_assoc]; rfl
      have hR := right_w (strAt ss k)
      rw [hN.right] at hR
      clear htd hN
      generalize strAt ss k = t at *
      by_cases h0 : k = 0
      · subst h0
        rw [Nat.add_zero] at c0
        obtain rfl : b = ⟨#[]⟩ := mk_bytes hbb.out
        have hX := Lib.hid (hst.out ((⟨#[]⟩ : ByteArray) ++ t) (by rw [data_append]; rfl))
        clear hst
        go_wp2_with fail
        refine (hR wr (by omega) (ht.tabs.ext fr)).mono ?_; rintro e w3 ⟨rfl, h3⟩
        clear hR
        have fr3 := fr.trans h3
        have hb3 := hb.trans h3
        have c0 : w3.cell? ⟨bb, off, none⟩ = some (.string t) := by rw [h3.cell (by exact hbl)]; exact c0
        go_wp2
        go_loopw [7] (fun i' wr => ∃ j : Nat, j ≤ t.size ∧ i' = .int .i64 j ∧ Ext w3 wr) (fun i' _ => t.size - (intOf i').toNat)
        case atStart => exact ⟨0, by omega, rfl, Ext.refl _⟩
        case round =>
          obtain ⟨j, hj, rfl, hb4⟩ := hrel
          have c0 : wr.cell? ⟨bb, off, none⟩ = some (.string t) := by rw [hb4.cell (by exact Nat.lt_of_lt_of_le hbl h3.size)]; exact c0
          by_cases hlj : j < t.size
          · have hbj := hbp.out j hlj
            go_wp2
            go_roundw
            case rel => exact ⟨j + 1, by omega, by go_num, hb4⟩
            case measure => simp [intOf]; omega
          · go_wp2
            go_roundw
            case rel => exact ⟨1, by omega, rfl, hb3.trans hb4, _, rfl, hX⟩
            case measure => simp [intOf]; omega
      · have h0p : 0 < k := by omega
        have hX := Lib.hid (hst.out ((b ++ (⟨#[47]⟩ : ByteArray)) ++ t) (by rw [data_append, data_append, if_neg h0]))
        clear hst
        go_wp2_with fail
        refine (hR wr (by omega) (ht.tabs.ext fr)).mono ?_; rintro e w3 ⟨rfl, h3⟩
        clear hR
        have fr3 := fr.trans h3
        have hb3 := hb.trans h3
        have c0 : w3.cell? ⟨bb, off + k, none⟩ = some (.string t) := by rw [h3.cell (by exact hbl)]; exact c0
        go_wp2
        go_loopw [7] (fun i' wr => ∃ j : Nat, j ≤ t.size ∧ i' = .int .i64 j ∧ Ext w3 wr) (fun i' _ => t.size - (intOf i').toNat)
        case atStart => exact ⟨0, by omega, rfl, Ext.refl _⟩
        case round =>
          obtain ⟨j, hj, rfl, hb4⟩ := hrel
          have c0 : wr.cell? ⟨bb, off + k, none⟩ = some (.string t) := by rw [hb4.cell (by exact Nat.lt_of_lt_of_le hbl h3.size)]; exact c0
          by_cases hlj : j < t.size
          · have hbj := hbp.out j hlj
            go_wp2
            go_roundw
            case rel => exact ⟨j + 1, by omega, by go_num, hb4⟩
            case measure => simp [intOf]; omega
          · go_wp2
            go_roundw
            case rel => exact ⟨k + 1, by omega, by go_num, hb3.trans hb4, _, rfl, hX⟩
            case measure => simp [intOf]; omega
    · obtain rfl : k = ss.length := by omega
      have fr := e2.trans hb
      by_cases h0 : ss.length = 0
      · have hn : ss = [] := List.length_eq_zero_iff.1 h0
        subst hn
        have hpn : partsL s.data.toList = [] := List.length_eq_zero_iff.1 hlp.out
        have hR := right_w s wr (by omega) (ht.tabs.ext fr)
        rw [hrt.out] at hR
        clear h0
        go_wp2_with fail
        refine hR.mono ?_; rintro e w3 ⟨rfl, h3⟩
        have fr3 := fr.trans h3
        go_wp2_with fail
        refine (ups_w s w3 (by omega) (ht.ext fr3)).mono ?_; rintro e w4 ⟨r4, rfl, ⟨s4, hx4, hP4⟩, h4⟩
        have fr4 := fr3.trans h4
        obtain rfl : s4 = [] := by
          have := hul.out
          rw [← hP4] at this
          simpa [bytesOf] using this
        obtain ⟨q4, cap4, rfl, _, _⟩ := hx4.shape
        have hU := under_w s s w4 (by omega) (ht.ext fr4)
        rw [huz.out hpn] at hU
        clear hP4 hpn
        go_wp2_with fail
        refine hU.mono ?_; rintro e w5 ⟨rfl, h5⟩
        go_wp2
        go_ret
        exact ⟨rfl, fr4.trans h5⟩
      · have hpn : partsL s.data.toList ≠ [] := fun e => by have := hlp.out; rw [e] at this; exact h0 this.symm
        have hbs' : b = s := by
          have h1 := hbb.out
          rw [← hlp.out, List.take_length, hjn.out hpn] at h1
          rw [mk_bytes h1, ← mk_bytes rfl]
        subst hbs'
        have hn0 : ((ss.length : Int) == 0) = false := by rw [beq_eq_false_iff_ne]; omega
        have hU := under_w b b wr (by omega) (ht.ext fr)
        rw [hus.out hpn] at hU
        clear hpn
        go_wp2_with fail
        refine hU.mono ?_; rintro e w3 ⟨rfl, h3⟩
        have fr3 := fr.trans h3
        have hR := right_w b w3 (by omega) (ht.tabs.ext fr3)
        rw [hrt.out] at hR
        have hd : decide (ss.length = 1) = ((ss.length : Int) == 1) := by
          rw [Bool.eq_iff_iff]; simp; omega
        rw [hd] at hR
        clear hd
        cases hz : ((ss.length : Int) == 1)
        all_goals
          rw [hz] at hR
          go_wp2_with fail
          refine hR.mono ?_; rintro e w4 ⟨rfl, h4⟩
          go_wp2
          go_ret
          exact ⟨rfl, fr3.trans h4⟩
end Go.Proofs.YtneenkaldinfaaaDoor
