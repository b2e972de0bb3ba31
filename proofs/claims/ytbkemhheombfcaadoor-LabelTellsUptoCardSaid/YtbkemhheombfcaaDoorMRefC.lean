/- Chapter 4: the walks of the document's Cut and Parse. -/
import Derived.Test.YtbkemhheombfcaaDoorMRefB
namespace Go.Dm
open Go Go.RowKit

theorem byte_get {l : Bs} {i : Nat} (h : i < l.length) : bAt l i = (l[i]).toNat := by
  simp [bAt, List.getD_eq_getElem?_getD, h]
theorem drop_cut {l : Bs} {f i : Nat} (hf : f ≤ i) (hi : i < l.length) : l.drop f = (l.drop f).take (i - f) ++ l[i] :: l.drop (i + 1) := by
  have h1 := List.take_append_drop (i - f) (l.drop f)
  rw [List.drop_drop, show f + (i - f) = i by omega, List.drop_eq_getElem_cons hi] at h1
  exact h1.symm
theorem bytesOf_snoc {xs : List ByteArray} {x : ByteArray} : bytesOf (xs ++ [x]) = bytesOf xs ++ [x.data.toList] := by simp [bytesOf]
theorem bytesOf_len (xs : List ByteArray) : (bytesOf xs).length = xs.length := by simp [bytesOf]

/-- Where the cutting of a text at c stands: pieces behind it, the next one begun at f, looked through up to i. -/
def CS (c : UInt8) (l : Bs) (out : List Bs) (f i : Nat) : Prop :=
  i ≤ l.length + 1 ∧ (i ≤ l.length → f ≤ i ∧ c ∉ (l.drop f).take (i - f) ∧ splitC c l = out ++ splitC c (l.drop f)) ∧ (l.length < i → splitC c l = out)

theorem CS.start (c : UInt8) (l : Bs) : CS c l [] 0 0 := ⟨by omega, fun _ => ⟨by omega, by simp, by simp⟩, fun h => by omega⟩
theorem CS.on {c : UInt8} {l : Bs} {out : List Bs} {f i : Nat} (h : CS c l out f i) (hi : i < l.length) (hb : bAt l i ≠ c.toNat) : CS c l out f (i + 1) := by
  obtain ⟨_, h4, _⟩ := h
  obtain ⟨g1, g2, g3⟩ := h4 (by omega)
  refine ⟨by omega, fun _ => ⟨by omega, ?_, g3⟩, fun h => by omega⟩
  have hlt : i - f < (l.drop f).length := by rw [List.length_drop]; omega
  rw [show i + 1 - f = (i - f) + 1 by omega, List.take_succ_eq_append_getElem hlt, List.mem_append, List.mem_singleton]
  rintro (h | h)
  · exact g2 h
  · rw [List.getElem_drop] at h
    apply hb
    rw [byte_get hi]
    have : l[f + (i - f)] = l[i] := by congr 1; omega
    rw [← this, ← h]
theorem CS.next {c : UInt8} {l : Bs} {out : List Bs} {f i : Nat} (h : CS c l out f i) (hi : i = l.length ∨ (i < l.length ∧ bAt l i = c.toNat)) : CS c l (out ++ [(l.drop f).take (i - f)]) (i + 1) (i + 1) := by
  obtain ⟨_, h4, _⟩ := h
  rcases hi with rfl | ⟨hi, hb⟩
  · obtain ⟨g1, g2, g3⟩ := h4 (by omega)
    have he : (l.drop f).take (l.length - f) = l.drop f := List.take_of_length_le (by rw [List.length_drop]; omega)
    rw [he] at g2 ⊢
    exact ⟨by omega, fun h => by omega, fun _ => by rw [g3, splitC_none g2]⟩
  · obtain ⟨g1, g2, g3⟩ := h4 (by omega)
    have hc := drop_cut g1 hi
    have h47 : l[i] = c := UInt8.toNat_inj.1 (by rw [← byte_get hi, hb])
    rw [h47] at hc
    refine ⟨by omega, fun _ => ⟨by omega, by simp, ?_⟩, fun h => by omega⟩
    rw [g3, List.append_assoc]
    congr 1
    conv => lhs; rw [hc]
    exact splitC_at g2
theorem CS.done {c : UInt8} {l : Bs} {out : List Bs} {f i : Nat} (h : CS c l out f i) (hi : l.length < i) : splitC c l = out := h.2.2 hi

theorem split_two {c : UInt8} {x a b : Bs} (h : splitC c x = [a, b]) : cutC c x = (a, b, true) := by
  rcases cut_atC c x with hn | ⟨p, r, h1, rfl⟩
  · rw [splitC_none hn] at h; cases h
  · rw [splitC_at h1] at h
    injection h with h2 h3
    have := join_splitC c r
    rw [h3, Lib.join_one] at this
    rw [cutC_at h1, h2, this]
theorem split_bad {x : Bs} (h : (splitC 61 x).length ≠ 2) : rightL (readP x).2 = false := by
  unfold readP
  rcases cut_atC 61 x with hn | ⟨p, r, h1, rfl⟩
  · rw [cutC_none hn]; exact right_nil
  · rw [cutC_at h1]
    cases hr : rightL r with
    | false => rfl
    | true =>
      rw [splitC_at h1, splitC_none (no_is hr)] at h
      simp at h
theorem parsed_bad {t x : Bs} (hx : x ∈ splitC 44 t) (h : (splitC 61 x).length ≠ 2) : rightLab (parsedLab t) = false := by
  cases hr : rightLab (parsedLab t) with
  | false => rfl
  | true =>
    have := (rightLab_names hr _ (List.mem_map_of_mem (f := readP) hx)).2
    rw [split_bad h] at this
    cases this
end Go.Dm
namespace Go.Proofs.YtbkemhheombfcaaDoor
open Go.RowKit Go.Dm

set_option maxHeartbeats 4000000 in
theorem mcut_w (s : ByteArray) (c : UInt8) (k : Int) (w : World) (hk : k = (c.toNat : Int)) (hs : s.size ≤ 1048576) :
    Calls Tryd.prog 65 #[.string s, .int .u8 k] w fun e w' => ∃ r, e = .returned r ∧ Texts w' r (splitC c s.data.toList) ∧ Ext w w' := by
  go_enter Tryd.func65, Tryd.ntmps65
  go_wp2
  go_loopw [5, 6, 7] (fun v f' i' wr => ∃ (f i : Nat) (xs : List ByteArray), f' = .int .i64 f ∧ i' = .int .i64 i ∧ i ≤ s.size + 1 ∧ f ≤ i ∧ xs.length ≤ i ∧ Ext w wr ∧ wr.ownsRow w.heap.size 9 1 v xs.length (xs.map .string) ∧ Hid (CS c s.data.toList (bytesOf xs) f i)) (fun _ _ i' _ => s.size + 1 - (intOf i').toNat)
  case atStart => exact ⟨0, 0, [], rfl, rfl, by omega, by omega, by simp, Ext.refl _, World.ownsRow_nil _ _ _ _, CS.start _ _⟩
  case round =>
    obtain ⟨f, i, xs, rfl, rfl, hi, hf, hxl, hb, ho, HP⟩ := hrel
    by_cases hle : i ≤ s.size
    · have hxd : (s.extract f i).data.toList = (s.data.toList.drop f).take (i - f) := Lib.extract_data s f i
      have hnext : (i = s.data.toList.length ∨ (i < s.data.toList.length ∧ bAt s.data.toList i = c.toNat)) → Hid (CS c s.data.toList (bytesOf (xs ++ [s.extract f i])) (i + 1) (i + 1)) := fun h => by
        have := HP.out.next h
        rw [← hxd, ← bytesOf_snoc] at this
        exact this
      have ho4 := Ext.row ho ((Ext.refl wr).alloc (.cells #[.string (s.extract f i)] 9))
      have hb4 := hb.trans ((Ext.refl wr).alloc (.cells #[.string (s.extract f i)] 9))
      have hl4 := Sl.lit wr 9 1 1 #[.string (s.extract f i)] rfl (by simp [maxLen])
      clear hxd
      by_cases hlt : i < s.size
      · obtain ⟨b, hbt⟩ : ∃ b : Int, ((s[i]'hlt).toNat : Int) = b := ⟨_, rfl⟩
        by_cases hbk : b = k
        · have hst := hnext (Or.inr ⟨hlt, by rw [← sAt hlt]; omega⟩)
          have hbn : (b == k) = true := by rw [beq_iff_eq]; exact hbk
          have hin : ((i : Int) == (s.size : Int)) = false := by rw [beq_eq_false_iff_ne]; omega
          clear hnext ho hbk hk
          go_wp2_with (at_builtin; refine wpList_appE rfl _ _ Tryd.slStr rfl hb4 rfl ho4 rfl hl4 (strs_one [s.extract f i]) (by omega) ?_; intro v5 w5 ho5 hb5 _)
          go_roundw
          case rel => exact ⟨i + 1, i + 1, xs ++ [s.extract f i], by go_num, by go_num, by omega, by omega, by simp; omega, hb5, by rw [List.length_append, List.map_append]; exact ho5, hst⟩
          case measure => simp [intOf]; omega
        · have hst := Lib.hid (HP.out.on hlt (by rw [← sAt hlt]; omega))
          have hbn : (b == k) = false := by rw [beq_eq_false_iff_ne]; exact hbk
          have hin : ((i : Int) == (s.size : Int)) = false := by rw [beq_eq_false_iff_ne]; omega
          clear hnext ho4 hb4 hl4 hbk hk
          go_wp2
          go_roundw
          case rel => exact ⟨f, i + 1, xs, rfl, by go_num, by omega, by omega, by omega, hb, ho, hst⟩
          case measure => simp [intOf]; omega
      · have hst := hnext (Or.inl (show i = s.size by omega))
        have hin : ((i : Int) == (s.size : Int)) = true := by rw [beq_iff_eq]; omega
        clear hnext ho hk
        go_wp2_with (at_builtin; refine wpList_appE rfl _ _ Tryd.slStr rfl hb4 rfl ho4 rfl hl4 (strs_one [s.extract f i]) (by omega) ?_; intro v5 w5 ho5 hb5 _)
        go_roundw
        case rel => exact ⟨i + 1, i + 1, xs ++ [s.extract f i], by go_num, by go_num, by omega, by omega, by simp; omega, hb5, by rw [List.length_append, List.map_append]; exact ho5, hst⟩
        case measure => simp [intOf]; omega
    · have hz := Lib.hid (HP.out.done (show s.size < i by omega))
      go_wp2
      go_ret
      exact ⟨_, rfl, ⟨xs, Strs.of_row ho rfl, hz.out.symm⟩, hb⟩

end Go.Proofs.YtbkemhheombfcaaDoor
