/- 'string(b)' of a slice that reads so. No program in sight. -/
import Derived.Test.YtibimbcjnjefdaaVPure
namespace Go.Dm
open Go Go.RowKit
theorem run_string_of {P : Program} {w : World} {src dst e : Nat} {v : Value} {n : Nat} {l : Bs} (hs : P.underlying src = some (.slice e)) (he : P.underlying e = some (.int .u8)) (hd : P.underlying dst = some .string)
    (h : Sl w 1 v n (bCells l)) (hn : n = l.length) (hl : l ≠ []) : (convert src dst v).run P w = .ok (.string ⟨l.toArray⟩) w := by
  subst hn
  obtain ⟨p, cap, rfl, _, _, _, hx⟩ := h.2
  have h0 : 0 < l.length := List.length_pos_iff.2 hl
  obtain ⟨b, off, rfl, hb, hc⟩ := hx.resolve_left (by omega)
  exact run_convert_bytes_back w src dst e ⟨b, off, none⟩ cap l hs he hd (fun j hj => by
    have := hc j (.int .u8 (l[j].toNat : Int)) (by simp [bCells, hj])
    unfold Addr.add
    split
    · rename_i h0; subst h0; simpa using this
    · exact this)
end Go.Dm
