/- Texts of the base. -/

import Derived.Test.YtefjdmjkofaajaaGreatDoorT15
import Derived.Test.YtefjdmjkofaajaaGreatDoorT13
import Derived.Test.YtefjdmjkofaajaaGreatDoorT3
import Derived.OwnWalk
namespace Go.Dm
open Go Go.RowKit
def PS (l : Bs) (out : List Bs) (f i : Nat) : Prop :=
 (∀ p ∈ out, rightL p = true) ∧ out.length ≤ 3 ∧ i ≤ l.length + 1 ∧ (i ≤ l.length → f ≤ i ∧ (47 : UInt8) ∉ (l.drop f).take (i - f) ∧ splitL l = out ++ splitL (l.drop f)) ∧ (l.length < i → splitL l = out)
theorem PS.start (l : Bs) : PS l [] 0 0 := ⟨by simp, by simp, by omega, fun _ => ⟨by omega, by simp, by simp⟩, fun h => by omega⟩
theorem byte_getP {l : Bs} {i : Nat} (h : i < l.length) : bAt l i = (l[i]).toNat := by
 simp [bAt, List.getD_eq_getElem?_getD, h]
theorem drop_cutP {l : Bs} {f i : Nat} (hf : f ≤ i) (hi : i < l.length) : l.drop f = (l.drop f).take (i - f) ++ l[i] :: l.drop (i + 1) := by
 have h1 := List.take_append_drop (i - f) (l.drop f)
 rw [List.drop_drop, show f + (i - f) = i by omega, List.drop_eq_getElem_cons hi] at h1
 exact h1.symm
theorem PS.on {l : Bs} {out : List Bs} {f i : Nat} (h : PS l out f i) (hi : i < l.length) (hb : bAt l i ≠ 47) : PS l out f (i + 1) := by
 obtain ⟨h1, h2, h3, h4, h5⟩ := h
 obtain ⟨g1, g2, g3⟩ := h4 (by omega)
 refine ⟨h1, h2, by omega, fun _ => ⟨by omega, ?_, g3⟩, fun h => by omega⟩
 have hlt : i - f < (l.drop f).length := by rw [List.length_drop]; omega
 rw [show i + 1 - f = (i - f) + 1 by omega, List.take_succ_eq_append_getElem hlt, List.mem_append, List.mem_singleton]
 rintro (h | h)
 ·exact g2 h
 ·rw [List.getElem_drop] at h
  apply hb
  rw [byte_getP hi]
  have : l[f + (i - f)] = l[i] := by congr 1; omega
  rw [← this, ← h]; rfl
theorem PS.cut {l : Bs} {out : List Bs} {f i : Nat} (h : PS l out f i) (hi : i = l.length ∨ (i < l.length ∧ bAt l i = 47)) :
  ∃ rest, splitL l = out ++ (l.drop f).take (i - f) :: rest ∧ (rest = [] ∧ i = l.length ∨ (i < l.length ∧ rest = splitL (l.drop (i + 1)))) := by
 obtain ⟨h1, h2, h3, h4, h5⟩ := h
 rcases hi with rfl | ⟨hi, hb⟩
 ·obtain ⟨g1, g2, g3⟩ := h4 (by omega)
  have he : (l.drop f).take (l.length - f) = l.drop f := List.take_of_length_le (by rw [List.length_drop]; omega)
  rw [he] at g2 ⊢
  exact ⟨[], by rw [g3, splitL_none g2], Or.inl ⟨rfl, rfl⟩⟩
 ·obtain ⟨g1, g2, g3⟩ := h4 (by omega)
  have hc := drop_cutP g1 hi
  have h47 : l[i] = 47 := UInt8.toNat_inj.1 (by rw [← byte_getP hi, hb]; rfl)
  rw [h47] at hc
  refine ⟨splitL (l.drop (i + 1)), ?_, Or.inr ⟨hi, rfl⟩⟩
  rw [g3]
  congr 1
  conv => lhs; rw [hc]
  exact splitL_at g2
theorem PS.bad {l : Bs} {out : List Bs} {f i : Nat} (h : PS l out f i) (hi : i = l.length ∨ (i < l.length ∧ bAt l i = 47)) (hr : rightL ((l.drop f).take (i - f)) = false) : partsL l = [] := by
 obtain ⟨rest, h1, _⟩ := h.cut hi
 exact partsL_wrong (p := (l.drop f).take (i - f)) (by rw [h1]; simp) hr
theorem PS.full {l : Bs} {out : List Bs} {f i : Nat} (h : PS l out f i) (hi : i = l.length ∨ (i < l.length ∧ bAt l i = 47)) (hr : out.length = 3) : partsL l = [] := by
 obtain ⟨rest, h1, _⟩ := h.cut hi
 exact partsL_long (by rw [h1]; simp; omega)
theorem PS.next {l : Bs} {out : List Bs} {f i : Nat} (h : PS l out f i) (hi : i = l.length ∨ (i < l.length ∧ bAt l i = 47)) (hr : rightL ((l.drop f).take (i - f)) = true) (h3 : out.length ≠ 3) :
  PS l (out ++ [(l.drop f).take (i - f)]) (i + 1) (i + 1) := by
 obtain ⟨rest, g1, g2⟩ := h.cut hi
 obtain ⟨h1, h2, _⟩ := h
 refine ⟨?_, by simp; omega, by omega, fun hlt => ⟨by omega, by simp, ?_⟩, fun hgt => ?_⟩
 ·intro p hp
  rcases List.mem_append.1 hp with hp | hp
  ·exact h1 p hp
  ·rw [List.mem_singleton.1 hp]; exact hr
 ·rcases g2 with ⟨_, g2⟩ | ⟨_, g2⟩
  ·omega
  ·rw [g1, g2]; simp
 ·rcases g2 with ⟨g2, _⟩ | ⟨g2, _⟩
  ·rw [g1, g2]
  ·omega
theorem PS.done {l : Bs} {out : List Bs} {f i : Nat} (h : PS l out f i) (hi : l.length < i) : partsL l = out := by
 obtain ⟨h1, h2, _, _, h5⟩ := h
 have := h5 hi
 rw [partsL_some (by rw [this]; exact h2) (by rw [this]; exact h1), this]
theorem bytesOf_snocP {xs : List ByteArray} {x : ByteArray} : bytesOf (xs ++ [x]) = bytesOf xs ++ [x.data.toList] := by simp [bytesOf]
theorem bytesOf_lenP (xs : List ByteArray) : (bytesOf xs).length = xs.length := by simp [bytesOf]
end Go.Dm
namespace Go.Proofs.YtefjdmjkofaajaaGreatDoor
open Go.RowKit Go.Dm
set_option maxHeartbeats 4000000 in
theorem rparts_w (s : ByteArray) (w : World) (hs : s.size < 9223372036854775806) :
  Calls Tryz.prog 121 #[.string s] w fun e w' => ∃ r, e = .returned r ∧ Texts w' r (partsL s.data.toList) ∧ Ext w w' := by
 go_enter Tryz.func121, Tryz.ntmps121
 go_wp2
 go_loopw [3, 4, 5] (fun v f' i' wr => ∃ (f i : Nat) (xs : List ByteArray), f' = .int .i64 f ∧ i' = .int .i64 i ∧ i ≤ s.size + 1 ∧ f ≤ i ∧ xs.length ≤ 3 ∧ Ext w wr ∧ wr.ownsRow w.heap.size 9 1 v xs.length (xs.map .string) ∧ Hid (PS s.data.toList (bytesOf xs) f i)) (fun _ _ i' _ => s.size + 1 - (intOf i').toNat)
 case atStart => exact ⟨0, 0, [], rfl, rfl, by omega, by omega, by simp, Ext.refl _, World.ownsRow_nil _ _ _ _, PS.start _⟩
 case round =>
  obtain ⟨f, i, xs, rfl, rfl, hi, hf, hx3, hb, ho, HP⟩ := hrel
  by_cases hle : i ≤ s.size
  ·-- the rest of the round, at the end of a piece
   have hpiece : (i = s.size ∨ (∃ h : i < s.size, (s[i]).toNat = 47)) → Hid (i = s.data.toList.length ∨ (i < s.data.toList.length ∧ bAt s.data.toList i = 47)) := by
    rintro (h | ⟨h, e⟩)
    ·exact Or.inl (by rw [← size_len]; exact h)
    ·exact Or.inr ⟨by rw [← size_len]; exact h, by rw [← sAt h]; exact e⟩
   have hxd : (s.extract f i).data.toList = (s.data.toList.drop f).take (i - f) := Lib.extract_data s f i
   have hxs : (s.extract f i).size < 9223372036854775807 := by rw [size_len, hxd, List.length_take, List.length_drop, ← size_len]; omega
   by_cases hlt : i < s.size
   ·obtain ⟨b, hbt⟩ : ∃ b : Int, ((s[i]'hlt).toNat : Int) = b := ⟨_, rfl⟩
    by_cases h47 : b = 47
    ·subst h47
     have hc := hpiece (Or.inr ⟨hlt, by omega⟩)
     have CR := rright_w (s.extract f i) wr hxs
     rw [hxd] at CR
     obtain ⟨q, cap, rfl, hqc, hqm⟩ := (Strs.of_row ho rfl).shape
     cases hr : rightL ((s.data.toList.drop f).take (i - f)) with
     | true =>
      rw [hr] at CR
      by_cases h3 : xs.length = 3
      ·have hz := Lib.hid (HP.out.full hc.out (by rw [bytesOf_lenP]; exact h3))
       have h3b : ((xs.length : Int) == 3) = true := by rw [beq_iff_eq]; omega
       clear h3 hxd
       go_wp2_with fail
       refine CR.mono ?_; rintro e w2 ⟨rfl, h2⟩
       go_wp2
       go_ret
       exact ⟨_, rfl, by rw [hz.out]; exact Texts.nil _, hb.trans h2⟩
      ·have h3b : ((xs.length : Int) == 3) = false := by rw [beq_eq_false_iff_ne]; omega
       have hst := HP.out.next hc.out hr (by rw [bytesOf_lenP]; exact h3)
       rw [← hxd, ← bytesOf_snocP] at hst
       replace hst := Lib.hid hst
       have hx3' : xs.length < 3 := by omega
       clear h3 hxd hr
       go_wp2_with fail
       refine CR.mono ?_; rintro e w2 ⟨rfl, h2⟩
       clear CR
       have hb2 := hb.trans h2
       have ho4 := Ext.row (Ext.row ho h2) ((Ext.refl w2).alloc (.cells #[.string (s.extract f i)] 9))
       have hb4 := hb2.trans ((Ext.refl w2).alloc (.cells #[.string (s.extract f i)] 9))
       have hl4 := Sl.lit w2 9 1 1 #[.string (s.extract f i)] rfl (by simp [maxLen])
       clear ho
       go_wp2_with (at_builtin; refine wpList_appE rfl _ _ Tryz.slStr rfl hb4 rfl ho4 rfl hl4 (strs_one [s.extract f i]) (by omega) ?_; intro v5 w5 ho5 hb5 _)
       go_roundw
       case rel => exact ⟨i + 1, i + 1, xs ++ [s.extract f i], by go_num, by go_num, by omega, by omega, by simp; omega, hb5, by rw [List.length_append, List.map_append]; exact ho5, hst⟩
       case measure => simp [intOf]; omega
     | false =>
      rw [hr] at CR
      have hz := Lib.hid (HP.out.bad hc.out hr)
      clear hxd hr
      go_wp2_with fail
      refine CR.mono ?_; rintro e w2 ⟨rfl, h2⟩
      go_wp2
      go_ret
      exact ⟨_, rfl, by rw [hz.out]; exact Texts.nil _, hb.trans h2⟩
    ·have hbn : (b != 47) = true := by rw [bne_iff_ne]; exact h47
     have hst := Lib.hid (HP.out.on (by rw [← size_len]; exact hlt) (by rw [← sAt hlt]; omega))
     clear h47
     go_wp2
     go_roundw
     case rel => exact ⟨f, i + 1, xs, rfl, by go_num, by omega, by omega, hx3, hb, ho, hst⟩
     case measure => simp [intOf]; omega
   ·have hc := hpiece (Or.inl (by omega))
    have CR := rright_w (s.extract f i) wr hxs
    rw [hxd] at CR
    obtain ⟨q, cap, rfl, hqc, hqm⟩ := (Strs.of_row ho rfl).shape
    cases hr : rightL ((s.data.toList.drop f).take (i - f)) with
    | true =>
     rw [hr] at CR
     by_cases h3 : xs.length = 3
     ·have hz := Lib.hid (HP.out.full hc.out (by rw [bytesOf_lenP]; exact h3))
      have h3b : ((xs.length : Int) == 3) = true := by rw [beq_iff_eq]; omega
      clear h3 hxd
      go_wp2_with fail
      refine CR.mono ?_; rintro e w2 ⟨rfl, h2⟩
      go_wp2
      go_ret
      exact ⟨_, rfl, by rw [hz.out]; exact Texts.nil _, hb.trans h2⟩
     ·have h3b : ((xs.length : Int) == 3) = false := by rw [beq_eq_false_iff_ne]; omega
      have hst := HP.out.next hc.out hr (by rw [bytesOf_lenP]; exact h3)
      rw [← hxd, ← bytesOf_snocP] at hst
      replace hst := Lib.hid hst
      have hx3' : xs.length < 3 := by omega
      clear h3 hxd hr
      go_wp2_with fail
      refine CR.mono ?_; rintro e w2 ⟨rfl, h2⟩
      clear CR
      have hb2 := hb.trans h2
      have ho4 := Ext.row (Ext.row ho h2) ((Ext.refl w2).alloc (.cells #[.string (s.extract f i)] 9))
      have hb4 := hb2.trans ((Ext.refl w2).alloc (.cells #[.string (s.extract f i)] 9))
      have hl4 := Sl.lit w2 9 1 1 #[.string (s.extract f i)] rfl (by simp [maxLen])
      clear ho
      go_wp2_with (at_builtin; refine wpList_appE rfl _ _ Tryz.slStr rfl hb4 rfl ho4 rfl hl4 (strs_one [s.extract f i]) (by omega) ?_; intro v5 w5 ho5 hb5 _)
      go_roundw
      case rel => exact ⟨i + 1, i + 1, xs ++ [s.extract f i], by go_num, by go_num, by omega, by omega, by simp; omega, hb5, by rw [List.length_append, List.map_append]; exact ho5, hst⟩
      case measure => simp [intOf]; omega
    | false =>
     rw [hr] at CR
     have hz := Lib.hid (HP.out.bad hc.out hr)
     clear hxd hr
     go_wp2_with fail
     refine CR.mono ?_; rintro e w2 ⟨rfl, h2⟩
     go_wp2
     go_ret
     exact ⟨_, rfl, by rw [hz.out]; exact Texts.nil _, hb.trans h2⟩
  ·go_wp2
   go_ret
   exact ⟨_, rfl, ⟨xs, Strs.of_row ho rfl, (HP.out.done (by rw [← size_len]; omega)).symm⟩, hb⟩
end Go.Proofs.YtefjdmjkofaajaaGreatDoor
