/- Chapter 2: the walk of the program's Parts. -/
import Derived.Test.YtneenkaldinfaaaDoorWWalkA
namespace Go.Dm
open Go Go.RowKit

/-- A slice value reads as these strings. -/
def Strs (w : World) (v : Value) (ss : List ByteArray) : Prop := Sl w 1 v ss.length (ss.map .string)
def strAt (ss : List ByteArray) (k : Nat) : ByteArray := ss.getD k ByteArray.empty
/-- Their bytes. -/
def bytesOf (ss : List ByteArray) : List Bs := ss.map (·.data.toList)

theorem Strs.ext {w w' : World} {v ss} (h : Strs w v ss) (hb : Ext w w') : Strs w' v ss := Sl.ext h hb
theorem Strs.nil (w : World) : Strs w (.slice none 0 0) [] := Sl.nil w 1
theorem Strs.shape {w : World} {v ss} (h : Strs w v ss) : ∃ p cap, v = .slice p ss.length cap ∧ ss.length ≤ cap ∧ cap ≤ maxLen := by
  obtain ⟨p, cap, h1, h2, h3, _⟩ := Sl.shape h
  exact ⟨p, cap, h1, h2, h3⟩
theorem Strs.at {w : World} {ss : List ByteArray} {p cap} (h : Strs w (.slice p ss.length cap) ss) {k : Nat} (hk : k < ss.length) :
    ∃ b off, p = some ⟨b, off, none⟩ ∧ b < w.heap.size ∧ w.cell? ⟨b, off + k, none⟩ = some (.string (strAt ss k)) := by
  obtain ⟨b, off, hp, hb, h⟩ := Sl.at h (by omega)
  exact ⟨b, off, hp, hb, h k _ (by simp [strAt, hk])⟩
theorem Strs.cells {w : World} {ss : List ByteArray} {b off cap} (h : Strs w (.slice (some ⟨b, off, none⟩) ss.length cap) ss) {k : Nat} (hk : k < ss.length) :
    b < w.heap.size ∧ w.cell? ⟨b, off + k, none⟩ = some (.string (strAt ss k)) := by
  obtain ⟨b', off', hp, h⟩ := h.at hk
  injection hp with hp
  injection hp with e1 e2
  subst e1 e2
  exact h

theorem mem_splitL_len : ∀ {l : Bs} {p : Bs}, p ∈ splitL l → p.length ≤ l.length
  | [], p, h => by simp [splitL] at h; simp [h]
  | c :: l, p, h => by
    unfold splitL at h
    split at h
    · rcases List.mem_cons.1 h with rfl | h
      · simp
      · have := mem_splitL_len h; simp; omega
    · split at h
      · simp at h; simp [h]
      · rename_i q qs he
        rcases List.mem_cons.1 h with rfl | h
        · have := mem_splitL_len (l := l) (p := q) (by rw [he]; simp)
          simp; omega
        · have := mem_splitL_len (l := l) (p := p) (by rw [he]; exact List.mem_cons_of_mem _ h)
          simp; omega

theorem splitL_len (l : Bs) : (splitL l).length ≤ l.length + 1 := by
  induction l with
  | nil => simp [splitL]
  | cons c l ih =>
    unfold splitL
    split
    · simp; omega
    · split
      · simp
      · rename_i he; rw [he] at ih; simp at ih ⊢; omega

/-- The library's pieces. -/
theorem splitB_bytes (s : ByteArray) : bytesOf (Lib.splitB ⟨#[47]⟩ 0 (Lib.countB s ⟨#[47]⟩) s) = splitL s.data.toList := by
  unfold bytesOf
  rw [Lib.splitB_data]
  show Lib.splitK [47] 0 (Lib.count s.data.toList [47]) s.data.toList = _
  rw [Lib.count_one]
  exact splitK_eq _ _ (Nat.le_refl _)

/-- A slice value reads as texts of these bytes. -/
def Texts (w : World) (v : Value) (L : List Bs) : Prop := ∃ ss, Strs w v ss ∧ bytesOf ss = L
theorem Texts.ext {w w' : World} {v L} (h : Texts w v L) (hb : Ext w w') : Texts w' v L := by
  obtain ⟨ss, h1, h2⟩ := h
  exact ⟨ss, h1.ext hb, h2⟩
theorem Texts.nil (w : World) : Texts w (.slice none 0 0) [] := ⟨[], Strs.nil w, rfl⟩

theorem strAt_mem {ss : List ByteArray} {k : Nat} (h : k < ss.length) : strAt ss k ∈ ss := by
  simp only [strAt, List.getD_eq_getElem?_getD, List.getElem?_eq_getElem h, Option.getD_some]
  exact List.getElem_mem h

end Go.Dm
namespace Go.Proofs.YtneenkaldinfaaaDoor
open Go.RowKit Go.Dm

/-- What the walks know of the package-level variables. -/
structure Vars (w : World) : Prop where
  tabs : Tabs w
  most : ∃ m, w.cell? ⟨2, 0, none⟩ = some (.int .i64 m)

theorem Vars.ext {w w' : World} (h : Vars w) (hb : Ext w w') : Vars w' := by
  refine ⟨h.tabs.ext hb, ?_⟩
  obtain ⟨m, hm⟩ := h.most
  exact ⟨m, by rw [hb.cell (by exact World.block_lt_of_cell? _ _ hm)]; exact hm⟩

def wrongN (s : ByteArray) : Bool := !rightL s.data.toList

set_option maxHeartbeats 400000 in
theorem parts1_w (s : ByteArray) (w : World) (hs : s.size < 9223372036854775807) (ht : Tabs w) :
    Calls Tryd.prog 28 #[.string s] w fun e w' => e = .returned (.bool (wrongN s)) ∧ Ext w w' := by
  go_enter Tryd.func28, Tryd.ntmps28
  go_wp2_with fail
  refine (right_w s w hs ht).mono ?_; rintro e w' ⟨rfl, hb⟩
  go_wp2
  go_ret
  exact ⟨rfl, hb⟩

set_option maxHeartbeats 400000 in
theorem indexWrong_w (ss : List ByteArray) (q : Option Addr) (cap : Nat) (w : World) (hm : ss.length ≤ 35184372088832) (hz : ∀ x ∈ ss, x.size < 9223372036854775807) (ht : Tabs w)
    (hx : Strs w (.slice q ss.length cap) ss) :
    Calls Tryd.prog 34 #[.slice q ss.length cap, .func (.func 28) #[] #[]] w
      fun e w' => e = .returned (.int .i64 (placeI (firstP wrongN ss))) ∧ Ext w w' := by
  go_enter Tryd.func34, Tryd.ntmps34
  go_wp2
  go_loopw [4, 8] (fun z i wr => ∃ k : Nat, k ≤ ss.length ∧ i = .int .i64 k ∧ z = .int .i64 0 ∧ Ext w wr ∧ Hid (∀ j, j < k → wrongN (strAt ss j) = false)) (fun _ i _ => ss.length - (intOf i).toNat)
  case atStart => exact ⟨0, by omega, rfl, rfl, Ext.refl w, fun j hj => by omega⟩
  case round =>
    obtain ⟨k, hk, rfl, rfl, hb, HN⟩ := hrel
    by_cases hlt : k < ss.length
    · obtain ⟨b, off, rfl, hbl, c0⟩ := (hx.ext hb).at hlt
      have C := parts1_w (strAt ss k) wr (hz _ (strAt_mem hlt)) (ht.ext hb)
      go_wp2_with fail
      refine C.mono ?_; rintro e w' ⟨rfl, hb1⟩
      cases ht : wrongN (strAt ss k) with
      | true =>
        go_wp2
        go_ret
        refine ⟨?_, hb.trans hb1⟩
        rw [firstP_hit ByteArray.empty hlt HN.out ht]
        rfl
      | false =>
        go_wp2
        go_roundw
        case rel => exact ⟨k + 1, by omega, by go_num, rfl, hb.trans hb1, fun j hj => by
          rcases Nat.lt_succ_iff_lt_or_eq.1 hj with h | rfl
          · exact HN.out j h
          · exact ht⟩
        case measure => simp [intOf]; omega
    · go_wp2
      go_ret
      obtain rfl : k = ss.length := by omega
      refine ⟨?_, hb⟩
      rw [firstP_miss ByteArray.empty HN.out]
      rfl

theorem any_wrong (ss : List ByteArray) : ss.any wrongN = (bytesOf ss).any fun p => !rightL p := by
  simp only [bytesOf, List.any_map]
  rfl

set_option maxHeartbeats 2000000 in
theorem parts_w (s : ByteArray) (w : World) (hs : s.size < 4294967281) (ht : Vars w) :
    Calls Tryd.prog 15 #[.string s] w fun e w' => ∃ r, e = .returned r ∧ Texts w' r (partsL s.data.toList) ∧ Ext w w' := by
  obtain ⟨m, hm⟩ := ht.most
  have hlen := splitB_bytes s
  have hall := Lib.splitB_all ⟨#[47]⟩ (by decide) 0 (Lib.countB s ⟨#[47]⟩) s rfl
  have hcl : Lib.countB s ⟨#[47]⟩ ≤ s.size := Lib.countB_le ⟨#[47]⟩ (by decide) s.size s (Nat.le_refl _)
  have C := Tryd.strings_Split s ⟨#[47]⟩ m w hs hm (by decide)
  rw [← hall] at C
  generalize hss : Lib.splitB ⟨#[47]⟩ 0 (Lib.countB s ⟨#[47]⟩) s = ss at C hlen hall
  clear hss
  have hz : ∀ x ∈ ss, x.size < 9223372036854775807 := by
    intro x hx
    have h1 : x.data.toList ∈ splitL s.data.toList := by rw [← hlen]; exact List.mem_map_of_mem hx
    have := mem_splitL_len h1
    rw [← size_len, ← size_len] at this
    omega
  have hl : ss.length ≤ 4294967281 := by omega
  have hlb : (splitL s.data.toList).length = ss.length := by rw [← hlen]; simp [bytesOf]
  have hal : Ext w (w.alloc (.cells (ss.map Value.string).toArray 9)) := (Ext.refl w).alloc _
  have hx : Strs (w.alloc (.cells (ss.map Value.string).toArray 9)) (.slice (some ⟨w.heap.size, 0, none⟩) ss.length ss.length) ss := by
    have := Sl.lit w 9 1 ss.length (ss.map Value.string).toArray (by simp) (by simp [maxLen]; omega)
    simpa [Strs] using this
  have HA := firstP_any wrongN ss
  have HP : Hid (partsL s.data.toList = if 3 < ss.length ∨ ss.any wrongN = true then [] else bytesOf ss) := by
    show partsL _ = _
    rw [partsL, hlb, any_wrong, hlen]
  clear hall hcl hlen hlb
  go_enter Tryd.func15, Tryd.ntmps15
  go_wp2_with fail
  refine C.mono ?_; rintro e w1 ⟨rfl, rfl⟩
  clear C
  generalize hW : w.alloc (.cells (ss.map Value.string).toArray 9) = W at hx hal
  by_cases h3 : 3 < ss.length
  · go_wp2
    go_ret
    exact ⟨_, rfl, by rw [HP.out, if_pos (Or.inl h3)]; exact Texts.nil _, hal⟩
  · have C := indexWrong_w ss (some ⟨w.heap.size, 0, none⟩) ss.length W (by omega) hz (ht.tabs.ext hal) hx
    cases ha : ss.any wrongN with
    | true =>
      have h0 := HA.2 ha
      go_wp2_with (first | (go_at_call 34; refine C.mono ?_; rintro e w2 ⟨rfl, hb2⟩) | go_in)
      go_ret
      exact ⟨_, rfl, by rw [HP.out, if_pos (Or.inr ha)]; exact Texts.nil _, hal.trans hb2⟩
    | false =>
      have h0 : ¬ (0 : Int) ≤ placeI (firstP wrongN ss) := fun h => by rw [HA.1 h] at ha; cases ha
      go_wp2_with (first | (go_at_call 34; refine C.mono ?_; rintro e w2 ⟨rfl, hb2⟩) | go_in)
      go_ret
      exact ⟨_, rfl, ⟨ss, hx.ext hb2, by rw [HP.out, if_neg (by simp [h3, ha])]⟩, hal.trans hb2⟩

end Go.Proofs.YtneenkaldinfaaaDoor
