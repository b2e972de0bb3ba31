/- Chapter 14: the walks of pushed and of the examples. -/
import Derived.Test.YtgkjpablofckjaaQWalkF
namespace Go.Proofs.Ytgkjpablofckjaa
open Go.RowKit Go.Dm

/-- A queue of which entries were pushed. -/
def pushedF (l : List Ent) : List Ent := l.foldl (fun q e => (pushF q e).1) []

theorem pushF_len (q : List Ent) (e : Ent) (h : q.length ≤ 32) : (pushF q e).1.length ≤ 32 := by
  unfold pushF
  split
  · exact h
  · split
    · exact h
    · split
      · exact h
      · have := placeF_le e q
        simp only [List.length_append, List.length_take, List.length_cons, List.length_drop]; omega

theorem pushedF_take {l : List Ent} {k : Nat} (h : k < l.length) : pushedF (l.take (k + 1)) = (pushF (pushedF (l.take k)) (ent l k)).1 := by
  rw [take_snoc h]
  simp [pushedF]

theorem foldl_len (l : List Ent) : ∀ q : List Ent, q.length ≤ 32 → (l.foldl (fun q e => (pushF q e).1) q).length ≤ 32 := by
  induction l with
  | nil => exact fun q h => h
  | cons e l ih => exact fun q h => ih _ (pushF_len q e h)

theorem pushedF_len (l : List Ent) : (pushedF l).length ≤ 32 := foldl_len l [] (by simp)

theorem Ents.nil (w : World) : Ents w (.slice none 0 0) [] := Sl.nil w 2

set_option maxHeartbeats 1000000 in
theorem pushed_w (l : List Ent) (v : Value) (w : World) (hm : l.length ≤ 8796093022208) (hx : Ents w v l) :
    Calls Try.prog 22 #[v] w fun e w' => ∃ r, e = .returned r ∧ Ents w' r (pushedF l) ∧ Ext w w' := by
  obtain ⟨q, cap, rfl, hcap, hcm⟩ := hx.shape
  go_enter Try.func22, Try.ntmps22
  go_wp2
  go_loopw [3, 4] (fun r i' wr => ∃ k : Nat, k ≤ l.length ∧ i' = .int .i64 k ∧ Ext w wr ∧ Ents wr r (pushedF (l.take k))) (fun _ i' _ => l.length - (intOf i').toNat)
  case atStart => exact ⟨0, by omega, rfl, Ext.refl _, Ents.nil w⟩
  case round =>
    obtain ⟨k, hk, rfl, hb, ho⟩ := hrel
    by_cases hlt : k < l.length
    · have hxr := hx.ext hb
      obtain ⟨b, off, rfl, hbl, c0, c1⟩ := hxr.at hlt
      have hp := pushedF_len (l.take k)
      go_wp2_with (go_at_call 11; go_must (refine (push_w _ _ _ _ _ (by omega) ho).mono ?_; rintro e w1 ⟨r2, rfl, ho3, hs⟩))
      go_roundw
      case rel => exact ⟨k + 1, by omega, by go_num, hb.trans hs, by rw [pushedF_take hlt]; exact ho3⟩
      case measure => simp [intOf]; omega
    · go_wp2
      go_ret
      obtain rfl : k = l.length := by omega
      rw [List.take_length] at ho
      exact ⟨_, rfl, ho, hb⟩

end Go.Proofs.Ytgkjpablofckjaa
