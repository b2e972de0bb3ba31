/- Texts one behind the other: Chapter 19: the walk of GateOnce. -/
import Derived.Test.YtefjdmjkofaajaaGreatDoorB45
import Derived.Test.YtefjdmjkofaajaaGreatDoorB47
namespace Go.Dm
open Go Go.RowKit
theorem open_none {l : Bs} (h : (openG l).2.2 = false) : openG l = noG := by
 unfold openG at *
 split at h
 ·rename_i h1; rw [if_pos h1]
 ·rename_i h1
  rw [if_neg h1]
  split at h
  ·rename_i h2; rw [if_pos h2]
  ·cases h
end Go.Dm
namespace Go.Proofs.YtefjdmjkofaajaaGreatDoor
open Go.RowKit Go.Dm

set_option maxHeartbeats 4000000 in
set_option maxRecDepth 100000 in
theorem gateOnce_w (s : ByteArray) (w : World) (hz : s.size ≤ 140737488351232) (ha : Vars w) (hs : ShaV w) (hg : GateV w) :
  Calls Tryz.prog 8 #[.string s] w fun e w' => e = .returned (.bool true) ∧ Ext w w' := by
 have hU : U64 s.data.toList.length := Nat.lt_of_le_of_lt (show s.size ≤ _ from hz) (by decide)
 have CX : Hid (∀ U, Ext w U → Calls Tryz.prog 9 #[] U fun e w' => e = .returned (.bool true) ∧ Ext U w') := fun U h => exam_w U (ha.ext h) (hs.ext h) (hg.ext h)
 have hno := open_none (l := s.data.toList)
 have hyes := fun t o => open_put (l := s.data.toList) hU (t := t) (o := o)
 have CO : Hid (∀ U, Ext w U → Calls Tryz.prog 20 #[.string s] U fun e w' => (∃ T V, e = .returned (.tuple #[T, V, .bool (openG s.data.toList).2.2]) ∧ TokAt w' T (openG s.data.toList).1 ∧ OpAt w' V (openG s.data.toList).2.1) ∧ Ext U w') := fun U h => gopen_w s U (by omega) (ha.ext h)
 have hE := Ext.refl w
 rcases hG : openG s.data.toList with ⟨t, o, ok⟩
 rw [hG] at hno CO
 simp only at hno CO
 cases ok with
 | false =>
  obtain ⟨rfl, rfl⟩ : t = noTok.1 ∧ o = opQ0 0 := by
   have := hno rfl
   injection this with e1 e2
   injection e2 with e2 _
   exact ⟨e1, e2⟩
  clear hno hyes hG hU
  go_enter Tryz.func8, Tryz.ntmps8
  go_wp2_with fail
  refine (CX.out _ hE).mono ?_; rintro e_ w1 ⟨rfl, h1⟩
  replace hE := hE.trans h1
  clear h1
  go_upto_region 4 with fail
  go_wp2_with fail
  refine (CO.out _ hE).mono ?_; rintro e_ w2 ⟨⟨T_, V_, rfl, hT_, hV_⟩, h2⟩
  replace hE := hE.trans h2
  clear h2
  obtain ⟨vx, rfl, hCx, hOk⟩ := hT_
  obtain ⟨qx, cx, rfl, _, _⟩ := hCx.shape
  obtain ⟨vv, vl, Rx, rfl, hTx, hFx, hRx, hRt, hPx, hOo⟩ := hV_
  obtain ⟨qv, cv, rfl, _, _⟩ := hTx.shape
  obtain ⟨ql, cl, rfl, _, _⟩ := hPx.shape
  unfold opV
  have hT_ : TokAt w2 (.agg #[.string noTok.1.1, .slice qx noTok.1.2.1.length cx, .string noTok.1.2.2]) noTok.1 := ⟨_, rfl, hCx, hOk⟩
  have hV_ : OpAt w2 (.agg #[.int .i64 (opQ0 0).1, .int .u64 ((opQ0 0).2.1.1 : Nat), .int .u64 ((opQ0 0).2.1.2 : Nat), .string (opQ0 0).2.2.1, .int .u64 ((vG (opQ0 0).2.2.2.1) 0 : Nat), .int .u64 ((vG (opQ0 0).2.2.2.1) 1 : Nat), .int .u64 ((vG (opQ0 0).2.2.2.1) 2 : Nat), .int .u64 ((vG (opQ0 0).2.2.2.1) 3 : Nat), .string (opQ0 0).2.2.2.2.1.1, .int .u64 ((vG (opQ0 0).2.2.2.2.1.2.1) 0 : Nat), .int .u64 ((vG (opQ0 0).2.2.2.2.1.2.1) 1 : Nat), .int .u64 ((vG (opQ0 0).2.2.2.2.1.2.1) 2 : Nat), .int .u64 ((vG (opQ0 0).2.2.2.2.1.2.1) 3 : Nat), .int .i64 (opQ0 0).2.2.2.2.1.2.2.1.1, .int .i64 (opQ0 0).2.2.2.2.1.2.2.1.2.1, .int .i64 (opQ0 0).2.2.2.2.1.2.2.1.2.2, .slice qv Rx.length cv, .slice ql (opQ0 0).2.2.2.2.2.length cl]) (opQ0 0) := ⟨_, _, Rx, rfl, hTx, hFx, hRx, hRt, hPx, hOo⟩
  clear hCx hTx hPx hOk hFx hRx hRt hOo
  have hsz : (w2.alloc (.cells #[.string ⟨#[]⟩, .slice none 0 0, .string ⟨#[]⟩] 24)).heap.size = w2.heap.size + 1 := by rw [World.size_alloc]
  have r1 : RB w2.heap.size 24 [.string ⟨#[]⟩, .slice none 0 0, .string ⟨#[]⟩] ((w2.alloc (.cells #[.string ⟨#[]⟩, .slice none 0 0, .string ⟨#[]⟩] 24)).alloc (.cells #[.int .i64 0, .int .u64 0, .int .u64 0, .string ⟨#[]⟩, .int .u64 0, .int .u64 0, .int .u64 0, .int .u64 0, .string ⟨#[]⟩, .int .u64 0, .int .u64 0, .int .u64 0, .int .u64 0, .int .i64 0, .int .i64 0, .int .i64 0, .slice none 0 0, .slice none 0 0] 33)) := (RB.new w2 24 [.string ⟨#[]⟩, .slice none 0 0, .string ⟨#[]⟩]).ext ((Ext.refl _).alloc _)
  have r2 : RB (w2.heap.size + 1) 33 [.int .i64 0, .int .u64 0, .int .u64 0, .string ⟨#[]⟩, .int .u64 0, .int .u64 0, .int .u64 0, .int .u64 0, .string ⟨#[]⟩, .int .u64 0, .int .u64 0, .int .u64 0, .int .u64 0, .int .i64 0, .int .i64 0, .int .i64 0, .slice none 0 0, .slice none 0 0] ((w2.alloc (.cells #[.string ⟨#[]⟩, .slice none 0 0, .string ⟨#[]⟩] 24)).alloc (.cells #[.int .i64 0, .int .u64 0, .int .u64 0, .string ⟨#[]⟩, .int .u64 0, .int .u64 0, .int .u64 0, .int .u64 0, .string ⟨#[]⟩, .int .u64 0, .int .u64 0, .int .u64 0, .int .u64 0, .int .i64 0, .int .i64 0, .int .i64 0, .slice none 0 0, .slice none 0 0] 33)) := by have := RB.new (w2.alloc (.cells #[.string ⟨#[]⟩, .slice none 0 0, .string ⟨#[]⟩] 24)) 33 [.int .i64 0, .int .u64 0, .int .u64 0, .string ⟨#[]⟩, .int .u64 0, .int .u64 0, .int .u64 0, .int .u64 0, .string ⟨#[]⟩, .int .u64 0, .int .u64 0, .int .u64 0, .int .u64 0, .int .i64 0, .int .i64 0, .int .i64 0, .slice none 0 0, .slice none 0 0]; rw [hsz] at this; exact this
  have r3 : RB (w2.heap.size + 1) 33 [.int .i64 0, .int .u64 0, .int .u64 0, .string ⟨#[]⟩, .int .u64 0, .int .u64 0, .int .u64 0, .int .u64 0, .string ⟨#[]⟩, .int .u64 0, .int .u64 0, .int .u64 0, .int .u64 0, .int .i64 0, .int .i64 0, .int .i64 0, .slice none 0 0, .slice none 0 0] (((w2.alloc (.cells #[.string ⟨#[]⟩, .slice none 0 0, .string ⟨#[]⟩] 24)).alloc (.cells #[.int .i64 0, .int .u64 0, .int .u64 0, .string ⟨#[]⟩, .int .u64 0, .int .u64 0, .int .u64 0, .int .u64 0, .string ⟨#[]⟩, .int .u64 0, .int .u64 0, .int .u64 0, .int .u64 0, .int .i64 0, .int .i64 0, .int .i64 0, .slice none 0 0, .slice none 0 0] 33)).setRow w2.heap.size #[.string noTok.1.1, .slice qx noTok.1.2.1.length cx, .string noTok.1.2.2]) := r2.farRow (by omega) _
  have hB4 : RB w2.heap.size 24 [.string noTok.1.1, .slice qx noTok.1.2.1.length cx, .string noTok.1.2.2] ((((w2.alloc (.cells #[.string ⟨#[]⟩, .slice none 0 0, .string ⟨#[]⟩] 24)).alloc (.cells #[.int .i64 0, .int .u64 0, .int .u64 0, .string ⟨#[]⟩, .int .u64 0, .int .u64 0, .int .u64 0, .int .u64 0, .string ⟨#[]⟩, .int .u64 0, .int .u64 0, .int .u64 0, .int .u64 0, .int .i64 0, .int .i64 0, .int .i64 0, .slice none 0 0, .slice none 0 0] 33)).setRow w2.heap.size #[.string noTok.1.1, .slice qx noTok.1.2.1.length cx, .string noTok.1.2.2]).setRow (w2.heap.size + 1) #[.int .i64 (opQ0 0).1, .int .u64 ((opQ0 0).2.1.1 : Nat), .int .u64 ((opQ0 0).2.1.2 : Nat), .string (opQ0 0).2.2.1, .int .u64 ((vG (opQ0 0).2.2.2.1) 0 : Nat), .int .u64 ((vG (opQ0 0).2.2.2.1) 1 : Nat), .int .u64 ((vG (opQ0 0).2.2.2.1) 2 : Nat), .int .u64 ((vG (opQ0 0).2.2.2.1) 3 : Nat), .string (opQ0 0).2.2.2.2.1.1, .int .u64 ((vG (opQ0 0).2.2.2.2.1.2.1) 0 : Nat), .int .u64 ((vG (opQ0 0).2.2.2.2.1.2.1) 1 : Nat), .int .u64 ((vG (opQ0 0).2.2.2.2.1.2.1) 2 : Nat), .int .u64 ((vG (opQ0 0).2.2.2.2.1.2.1) 3 : Nat), .int .i64 (opQ0 0).2.2.2.2.1.2.2.1.1, .int .i64 (opQ0 0).2.2.2.2.1.2.2.1.2.1, .int .i64 (opQ0 0).2.2.2.2.1.2.2.1.2.2, .slice qv Rx.length cv, .slice ql (opQ0 0).2.2.2.2.2.length cl]) := (r1.setRow [.string noTok.1.1, .slice qx noTok.1.2.1.length cx, .string noTok.1.2.2]).farRow (by omega) _
  have hB5 : RB (w2.heap.size + 1) 33 [.int .i64 (opQ0 0).1, .int .u64 ((opQ0 0).2.1.1 : Nat), .int .u64 ((opQ0 0).2.1.2 : Nat), .string (opQ0 0).2.2.1, .int .u64 ((vG (opQ0 0).2.2.2.1) 0 : Nat), .int .u64 ((vG (opQ0 0).2.2.2.1) 1 : Nat), .int .u64 ((vG (opQ0 0).2.2.2.1) 2 : Nat), .int .u64 ((vG (opQ0 0).2.2.2.1) 3 : Nat), .string (opQ0 0).2.2.2.2.1.1, .int .u64 ((vG (opQ0 0).2.2.2.2.1.2.1) 0 : Nat), .int .u64 ((vG (opQ0 0).2.2.2.2.1.2.1) 1 : Nat), .int .u64 ((vG (opQ0 0).2.2.2.2.1.2.1) 2 : Nat), .int .u64 ((vG (opQ0 0).2.2.2.2.1.2.1) 3 : Nat), .int .i64 (opQ0 0).2.2.2.2.1.2.2.1.1, .int .i64 (opQ0 0).2.2.2.2.1.2.2.1.2.1, .int .i64 (opQ0 0).2.2.2.2.1.2.2.1.2.2, .slice qv Rx.length cv, .slice ql (opQ0 0).2.2.2.2.2.length cl] ((((w2.alloc (.cells #[.string ⟨#[]⟩, .slice none 0 0, .string ⟨#[]⟩] 24)).alloc (.cells #[.int .i64 0, .int .u64 0, .int .u64 0, .string ⟨#[]⟩, .int .u64 0, .int .u64 0, .int .u64 0, .int .u64 0, .string ⟨#[]⟩, .int .u64 0, .int .u64 0, .int .u64 0, .int .u64 0, .int .i64 0, .int .i64 0, .int .i64 0, .slice none 0 0, .slice none 0 0] 33)).setRow w2.heap.size #[.string noTok.1.1, .slice qx noTok.1.2.1.length cx, .string noTok.1.2.2]).setRow (w2.heap.size + 1) #[.int .i64 (opQ0 0).1, .int .u64 ((opQ0 0).2.1.1 : Nat), .int .u64 ((opQ0 0).2.1.2 : Nat), .string (opQ0 0).2.2.1, .int .u64 ((vG (opQ0 0).2.2.2.1) 0 : Nat), .int .u64 ((vG (opQ0 0).2.2.2.1) 1 : Nat), .int .u64 ((vG (opQ0 0).2.2.2.1) 2 : Nat), .int .u64 ((vG (opQ0 0).2.2.2.1) 3 : Nat), .string (opQ0 0).2.2.2.2.1.1, .int .u64 ((vG (opQ0 0).2.2.2.2.1.2.1) 0 : Nat), .int .u64 ((vG (opQ0 0).2.2.2.2.1.2.1) 1 : Nat), .int .u64 ((vG (opQ0 0).2.2.2.2.1.2.1) 2 : Nat), .int .u64 ((vG (opQ0 0).2.2.2.2.1.2.1) 3 : Nat), .int .i64 (opQ0 0).2.2.2.2.1.2.2.1.1, .int .i64 (opQ0 0).2.2.2.2.1.2.2.1.2.1, .int .i64 (opQ0 0).2.2.2.2.1.2.2.1.2.2, .slice qv Rx.length cv, .slice ql (opQ0 0).2.2.2.2.2.length cl]) := r3.setRow [.int .i64 (opQ0 0).1, .int .u64 ((opQ0 0).2.1.1 : Nat), .int .u64 ((opQ0 0).2.1.2 : Nat), .string (opQ0 0).2.2.1, .int .u64 ((vG (opQ0 0).2.2.2.1) 0 : Nat), .int .u64 ((vG (opQ0 0).2.2.2.1) 1 : Nat), .int .u64 ((vG (opQ0 0).2.2.2.1) 2 : Nat), .int .u64 ((vG (opQ0 0).2.2.2.1) 3 : Nat), .string (opQ0 0).2.2.2.2.1.1, .int .u64 ((vG (opQ0 0).2.2.2.2.1.2.1) 0 : Nat), .int .u64 ((vG (opQ0 0).2.2.2.2.1.2.1) 1 : Nat), .int .u64 ((vG (opQ0 0).2.2.2.2.1.2.1) 2 : Nat), .int .u64 ((vG (opQ0 0).2.2.2.2.1.2.1) 3 : Nat), .int .i64 (opQ0 0).2.2.2.2.1.2.2.1.1, .int .i64 (opQ0 0).2.2.2.2.1.2.2.1.2.1, .int .i64 (opQ0 0).2.2.2.2.1.2.2.1.2.2, .slice qv Rx.length cv, .slice ql (opQ0 0).2.2.2.2.2.length cl]
  have e_ : Ext w2 ((((w2.alloc (.cells #[.string ⟨#[]⟩, .slice none 0 0, .string ⟨#[]⟩] 24)).alloc (.cells #[.int .i64 0, .int .u64 0, .int .u64 0, .string ⟨#[]⟩, .int .u64 0, .int .u64 0, .int .u64 0, .int .u64 0, .string ⟨#[]⟩, .int .u64 0, .int .u64 0, .int .u64 0, .int .u64 0, .int .i64 0, .int .i64 0, .int .i64 0, .slice none 0 0, .slice none 0 0] 33)).setRow w2.heap.size #[.string noTok.1.1, .slice qx noTok.1.2.1.length cx, .string noTok.1.2.2]).setRow (w2.heap.size + 1) #[.int .i64 (opQ0 0).1, .int .u64 ((opQ0 0).2.1.1 : Nat), .int .u64 ((opQ0 0).2.1.2 : Nat), .string (opQ0 0).2.2.1, .int .u64 ((vG (opQ0 0).2.2.2.1) 0 : Nat), .int .u64 ((vG (opQ0 0).2.2.2.1) 1 : Nat), .int .u64 ((vG (opQ0 0).2.2.2.1) 2 : Nat), .int .u64 ((vG (opQ0 0).2.2.2.1) 3 : Nat), .string (opQ0 0).2.2.2.2.1.1, .int .u64 ((vG (opQ0 0).2.2.2.2.1.2.1) 0 : Nat), .int .u64 ((vG (opQ0 0).2.2.2.2.1.2.1) 1 : Nat), .int .u64 ((vG (opQ0 0).2.2.2.2.1.2.1) 2 : Nat), .int .u64 ((vG (opQ0 0).2.2.2.2.1.2.1) 3 : Nat), .int .i64 (opQ0 0).2.2.2.2.1.2.2.1.1, .int .i64 (opQ0 0).2.2.2.2.1.2.2.1.2.1, .int .i64 (opQ0 0).2.2.2.2.1.2.2.1.2.2, .slice qv Rx.length cv, .slice ql (opQ0 0).2.2.2.2.2.length cl]) := Ext.setRow (Ext.setRow (((Ext.refl w2).alloc _).alloc _) (Nat.le_refl _) _) (Nat.le_succ _) _
  clear hsz
  go_upto_region 5 with (first | (refine wpList_store_row (cells := #[.string noTok.1.1, .slice qx noTok.1.2.1.length cx, .string noTok.1.2.2]) rfl 24 _ _ rfl w2.heap.size rfl rfl _ _ r1 (by kernel_rfl) rfl (by first | rfl | decide | simp [Value.oneCell']) ?_) | (refine wpList_store_row (cells := #[.int .i64 (opQ0 0).1, .int .u64 ((opQ0 0).2.1.1 : Nat), .int .u64 ((opQ0 0).2.1.2 : Nat), .string (opQ0 0).2.2.1, .int .u64 ((vG (opQ0 0).2.2.2.1) 0 : Nat), .int .u64 ((vG (opQ0 0).2.2.2.1) 1 : Nat), .int .u64 ((vG (opQ0 0).2.2.2.1) 2 : Nat), .int .u64 ((vG (opQ0 0).2.2.2.1) 3 : Nat), .string (opQ0 0).2.2.2.2.1.1, .int .u64 ((vG (opQ0 0).2.2.2.2.1.2.1) 0 : Nat), .int .u64 ((vG (opQ0 0).2.2.2.2.1.2.1) 1 : Nat), .int .u64 ((vG (opQ0 0).2.2.2.2.1.2.1) 2 : Nat), .int .u64 ((vG (opQ0 0).2.2.2.2.1.2.1) 3 : Nat), .int .i64 (opQ0 0).2.2.2.2.1.2.2.1.1, .int .i64 (opQ0 0).2.2.2.2.1.2.2.1.2.1, .int .i64 (opQ0 0).2.2.2.2.1.2.2.1.2.2, .slice qv Rx.length cv, .slice ql (opQ0 0).2.2.2.2.2.length cl]) rfl 33 _ _ rfl (w2.heap.size + 1) rfl rfl _ _ r3 (by kernel_rfl) rfl (by first | rfl | decide | simp [Value.oneCell']) ?_))
  clear r1 r2 r3
  replace hE := hE.trans e_
  replace hT_ := hT_.ext e_
  replace hV_ := hV_.ext e_
  clear e_
  generalize (((w2.alloc (.cells #[.string ⟨#[]⟩, .slice none 0 0, .string ⟨#[]⟩] 24)).alloc (.cells #[.int .i64 0, .int .u64 0, .int .u64 0, .string ⟨#[]⟩, .int .u64 0, .int .u64 0, .int .u64 0, .int .u64 0, .string ⟨#[]⟩, .int .u64 0, .int .u64 0, .int .u64 0, .int .u64 0, .int .i64 0, .int .i64 0, .int .i64 0, .slice none 0 0, .slice none 0 0] 33)).setRow w2.heap.size #[.string noTok.1.1, .slice qx noTok.1.2.1.length cx, .string noTok.1.2.2]).setRow (w2.heap.size + 1) #[.int .i64 (opQ0 0).1, .int .u64 ((opQ0 0).2.1.1 : Nat), .int .u64 ((opQ0 0).2.1.2 : Nat), .string (opQ0 0).2.2.1, .int .u64 ((vG (opQ0 0).2.2.2.1) 0 : Nat), .int .u64 ((vG (opQ0 0).2.2.2.1) 1 : Nat), .int .u64 ((vG (opQ0 0).2.2.2.1) 2 : Nat), .int .u64 ((vG (opQ0 0).2.2.2.1) 3 : Nat), .string (opQ0 0).2.2.2.2.1.1, .int .u64 ((vG (opQ0 0).2.2.2.2.1.2.1) 0 : Nat), .int .u64 ((vG (opQ0 0).2.2.2.2.1.2.1) 1 : Nat), .int .u64 ((vG (opQ0 0).2.2.2.2.1.2.1) 2 : Nat), .int .u64 ((vG (opQ0 0).2.2.2.2.1.2.1) 3 : Nat), .int .i64 (opQ0 0).2.2.2.2.1.2.2.1.1, .int .i64 (opQ0 0).2.2.2.2.1.2.2.1.2.1, .int .i64 (opQ0 0).2.2.2.2.1.2.2.1.2.2, .slice qv Rx.length cv, .slice ql (opQ0 0).2.2.2.2.2.length cl] = w3 at *
  generalize w2.heap.size + 1 = b5 at *
  generalize w2.heap.size = b4 at *
  clear hT_ hV_
  have l4 := hB4.lt
  have c0 : w3.cell? ⟨b4, 0, none⟩ = some (.string ⟨#[]⟩) := hB4.cell 0
  have c1 : w3.cell? ⟨b4, 1, none⟩ = some (.slice qx 0 cx) := hB4.cell 1
  have c2 : w3.cell? ⟨b4, 2, none⟩ = some (.string ⟨#[]⟩) := hB4.cell 2
  have l5 := hB5.lt
  have x0 : w3.cell? ⟨b5, 0, none⟩ = some (.int .i64 0) := hB5.cell 0
  go_wp2
  go_ret
  exact ⟨rfl, hE⟩
 | true =>
  obtain ⟨hput, hri⟩ := hyes t o hG
  have hsv : (⟨(putG t o).toArray⟩ : ByteArray) = s := by rw [hput]
  have CP : Hid (∀ T V U, TokAt U T t → OpAt U V o → Ext w U → Calls Tryz.prog 15 #[T, V] U fun e w' => e = .returned (.string s) ∧ Ext U w') := fun T V U h1 h2 h => by
   have := gput_w T V t o U h1 h2 (ha.ext h)
   rw [hsv] at this
   exact this
  have CR : Hid (∀ V U, OpAt U V o → Ext w U → Calls Tryz.prog 25 #[V] U fun e w' => e = .returned (.bool true) ∧ Ext U w') := fun V U h2 h => by
   have := rightA h2 (ha.ext h)
   rw [hri] at this
   exact this
  clear hno hyes hG hU hput hri hsv
  go_enter Tryz.func8, Tryz.ntmps8
  go_wp2_with fail
  refine (CX.out _ hE).mono ?_; rintro e_ w1 ⟨rfl, h1⟩
  replace hE := hE.trans h1
  clear h1
  go_upto_region 4 with fail
  go_wp2_with fail
  refine (CO.out _ hE).mono ?_; rintro e_ w2 ⟨⟨T_, V_, rfl, hT_, hV_⟩, h2⟩
  replace hE := hE.trans h2
  clear h2
  obtain ⟨vx, rfl, hCx, hOk⟩ := hT_
  obtain ⟨qx, cx, rfl, _, _⟩ := hCx.shape
  obtain ⟨vv, vl, Rx, rfl, hTx, hFx, hRx, hRt, hPx, hOo⟩ := hV_
  obtain ⟨qv, cv, rfl, _, _⟩ := hTx.shape
  obtain ⟨ql, cl, rfl, _, _⟩ := hPx.shape
  unfold opV
  have hT_ : TokAt w2 (.agg #[.string t.1, .slice qx t.2.1.length cx, .string t.2.2]) t := ⟨_, rfl, hCx, hOk⟩
  have hV_ : OpAt w2 (.agg #[.int .i64 o.1, .int .u64 (o.2.1.1 : Nat), .int .u64 (o.2.1.2 : Nat), .string o.2.2.1, .int .u64 ((vG o.2.2.2.1) 0 : Nat), .int .u64 ((vG o.2.2.2.1) 1 : Nat), .int .u64 ((vG o.2.2.2.1) 2 : Nat), .int .u64 ((vG o.2.2.2.1) 3 : Nat), .string o.2.2.2.2.1.1, .int .u64 ((vG o.2.2.2.2.1.2.1) 0 : Nat), .int .u64 ((vG o.2.2.2.2.1.2.1) 1 : Nat), .int .u64 ((vG o.2.2.2.2.1.2.1) 2 : Nat), .int .u64 ((vG o.2.2.2.2.1.2.1) 3 : Nat), .int .i64 o.2.2.2.2.1.2.2.1.1, .int .i64 o.2.2.2.2.1.2.2.1.2.1, .int .i64 o.2.2.2.2.1.2.2.1.2.2, .slice qv Rx.length cv, .slice ql o.2.2.2.2.2.length cl]) o := ⟨_, _, Rx, rfl, hTx, hFx, hRx, hRt, hPx, hOo⟩
  clear hCx hTx hPx hOk hFx hRx hRt hOo
  have hsz : (w2.alloc (.cells #[.string ⟨#[]⟩, .slice none 0 0, .string ⟨#[]⟩] 24)).heap.size = w2.heap.size + 1 := by rw [World.size_alloc]
  have r1 : RB w2.heap.size 24 [.string ⟨#[]⟩, .slice none 0 0, .string ⟨#[]⟩] ((w2.alloc (.cells #[.string ⟨#[]⟩, .slice none 0 0, .string ⟨#[]⟩] 24)).alloc (.cells #[.int .i64 0, .int .u64 0, .int .u64 0, .string ⟨#[]⟩, .int .u64 0, .int .u64 0, .int .u64 0, .int .u64 0, .string ⟨#[]⟩, .int .u64 0, .int .u64 0, .int .u64 0, .int .u64 0, .int .i64 0, .int .i64 0, .int .i64 0, .slice none 0 0, .slice none 0 0] 33)) := (RB.new w2 24 [.string ⟨#[]⟩, .slice none 0 0, .string ⟨#[]⟩]).ext ((Ext.refl _).alloc _)
  have r2 : RB (w2.heap.size + 1) 33 [.int .i64 0, .int .u64 0, .int .u64 0, .string ⟨#[]⟩, .int .u64 0, .int .u64 0, .int .u64 0, .int .u64 0, .string ⟨#[]⟩, .int .u64 0, .int .u64 0, .int .u64 0, .int .u64 0, .int .i64 0, .int .i64 0, .int .i64 0, .slice none 0 0, .slice none 0 0] ((w2.alloc (.cells #[.string ⟨#[]⟩, .slice none 0 0, .string ⟨#[]⟩] 24)).alloc (.cells #[.int .i64 0, .int .u64 0, .int .u64 0, .string ⟨#[]⟩, .int .u64 0, .int .u64 0, .int .u64 0, .int .u64 0, .string ⟨#[]⟩, .int .u64 0, .int .u64 0, .int .u64 0, .int .u64 0, .int .i64 0, .int .i64 0, .int .i64 0, .slice none 0 0, .slice none 0 0] 33)) := by have := RB.new (w2.alloc (.cells #[.string ⟨#[]⟩, .slice none 0 0, .string ⟨#[]⟩] 24)) 33 [.int .i64 0, .int .u64 0, .int .u64 0, .string ⟨#[]⟩, .int .u64 0, .int .u64 0, .int .u64 0, .int .u64 0, .string ⟨#[]⟩, .int .u64 0, .int .u64 0, .int .u64 0, .int .u64 0, .int .i64 0, .int .i64 0, .int .i64 0, .slice none 0 0, .slice none 0 0]; rw [hsz] at this; exact this
  have r3 : RB (w2.heap.size + 1) 33 [.int .i64 0, .int .u64 0, .int .u64 0, .string ⟨#[]⟩, .int .u64 0, .int .u64 0, .int .u64 0, .int .u64 0, .string ⟨#[]⟩, .int .u64 0, .int .u64 0, .int .u64 0, .int .u64 0, .int .i64 0, .int .i64 0, .int .i64 0, .slice none 0 0, .slice none 0 0] (((w2.alloc (.cells #[.string ⟨#[]⟩, .slice none 0 0, .string ⟨#[]⟩] 24)).alloc (.cells #[.int .i64 0, .int .u64 0, .int .u64 0, .string ⟨#[]⟩, .int .u64 0, .int .u64 0, .int .u64 0, .int .u64 0, .string ⟨#[]⟩, .int .u64 0, .int .u64 0, .int .u64 0, .int .u64 0, .int .i64 0, .int .i64 0, .int .i64 0, .slice none 0 0, .slice none 0 0] 33)).setRow w2.heap.size #[.string t.1, .slice qx t.2.1.length cx, .string t.2.2]) := r2.farRow (by omega) _
  have hB4 : RB w2.heap.size 24 [.string t.1, .slice qx t.2.1.length cx, .string t.2.2] ((((w2.alloc (.cells #[.string ⟨#[]⟩, .slice none 0 0, .string ⟨#[]⟩] 24)).alloc (.cells #[.int .i64 0, .int .u64 0, .int .u64 0, .string ⟨#[]⟩, .int .u64 0, .int .u64 0, .int .u64 0, .int .u64 0, .string ⟨#[]⟩, .int .u64 0, .int .u64 0, .int .u64 0, .int .u64 0, .int .i64 0, .int .i64 0, .int .i64 0, .slice none 0 0, .slice none 0 0] 33)).setRow w2.heap.size #[.string t.1, .slice qx t.2.1.length cx, .string t.2.2]).setRow (w2.heap.size + 1) #[.int .i64 o.1, .int .u64 (o.2.1.1 : Nat), .int .u64 (o.2.1.2 : Nat), .string o.2.2.1, .int .u64 ((vG o.2.2.2.1) 0 : Nat), .int .u64 ((vG o.2.2.2.1) 1 : Nat), .int .u64 ((vG o.2.2.2.1) 2 : Nat), .int .u64 ((vG o.2.2.2.1) 3 : Nat), .string o.2.2.2.2.1.1, .int .u64 ((vG o.2.2.2.2.1.2.1) 0 : Nat), .int .u64 ((vG o.2.2.2.2.1.2.1) 1 : Nat), .int .u64 ((vG o.2.2.2.2.1.2.1) 2 : Nat), .int .u64 ((vG o.2.2.2.2.1.2.1) 3 : Nat), .int .i64 o.2.2.2.2.1.2.2.1.1, .int .i64 o.2.2.2.2.1.2.2.1.2.1, .int .i64 o.2.2.2.2.1.2.2.1.2.2, .slice qv Rx.length cv, .slice ql o.2.2.2.2.2.length cl]) := (r1.setRow [.string t.1, .slice qx t.2.1.length cx, .string t.2.2]).farRow (by omega) _
  have hB5 : RB (w2.heap.size + 1) 33 [.int .i64 o.1, .int .u64 (o.2.1.1 : Nat), .int .u64 (o.2.1.2 : Nat), .string o.2.2.1, .int .u64 ((vG o.2.2.2.1) 0 : Nat), .int .u64 ((vG o.2.2.2.1) 1 : Nat), .int .u64 ((vG o.2.2.2.1) 2 : Nat), .int .u64 ((vG o.2.2.2.1) 3 : Nat), .string o.2.2.2.2.1.1, .int .u64 ((vG o.2.2.2.2.1.2.1) 0 : Nat), .int .u64 ((vG o.2.2.2.2.1.2.1) 1 : Nat), .int .u64 ((vG o.2.2.2.2.1.2.1) 2 : Nat), .int .u64 ((vG o.2.2.2.2.1.2.1) 3 : Nat), .int .i64 o.2.2.2.2.1.2.2.1.1, .int .i64 o.2.2.2.2.1.2.2.1.2.1, .int .i64 o.2.2.2.2.1.2.2.1.2.2, .slice qv Rx.length cv, .slice ql o.2.2.2.2.2.length cl] ((((w2.alloc (.cells #[.string ⟨#[]⟩, .slice none 0 0, .string ⟨#[]⟩] 24)).alloc (.cells #[.int .i64 0, .int .u64 0, .int .u64 0, .string ⟨#[]⟩, .int .u64 0, .int .u64 0, .int .u64 0, .int .u64 0, .string ⟨#[]⟩, .int .u64 0, .int .u64 0, .int .u64 0, .int .u64 0, .int .i64 0, .int .i64 0, .int .i64 0, .slice none 0 0, .slice none 0 0] 33)).setRow w2.heap.size #[.string t.1, .slice qx t.2.1.length cx, .string t.2.2]).setRow (w2.heap.size + 1) #[.int .i64 o.1, .int .u64 (o.2.1.1 : Nat), .int .u64 (o.2.1.2 : Nat), .string o.2.2.1, .int .u64 ((vG o.2.2.2.1) 0 : Nat), .int .u64 ((vG o.2.2.2.1) 1 : Nat), .int .u64 ((vG o.2.2.2.1) 2 : Nat), .int .u64 ((vG o.2.2.2.1) 3 : Nat), .string o.2.2.2.2.1.1, .int .u64 ((vG o.2.2.2.2.1.2.1) 0 : Nat), .int .u64 ((vG o.2.2.2.2.1.2.1) 1 : Nat), .int .u64 ((vG o.2.2.2.2.1.2.1) 2 : Nat), .int .u64 ((vG o.2.2.2.2.1.2.1) 3 : Nat), .int .i64 o.2.2.2.2.1.2.2.1.1, .int .i64 o.2.2.2.2.1.2.2.1.2.1, .int .i64 o.2.2.2.2.1.2.2.1.2.2, .slice qv Rx.length cv, .slice ql o.2.2.2.2.2.length cl]) := r3.setRow [.int .i64 o.1, .int .u64 (o.2.1.1 : Nat), .int .u64 (o.2.1.2 : Nat), .string o.2.2.1, .int .u64 ((vG o.2.2.2.1) 0 : Nat), .int .u64 ((vG o.2.2.2.1) 1 : Nat), .int .u64 ((vG o.2.2.2.1) 2 : Nat), .int .u64 ((vG o.2.2.2.1) 3 : Nat), .string o.2.2.2.2.1.1, .int .u64 ((vG o.2.2.2.2.1.2.1) 0 : Nat), .int .u64 ((vG o.2.2.2.2.1.2.1) 1 : Nat), .int .u64 ((vG o.2.2.2.2.1.2.1) 2 : Nat), .int .u64 ((vG o.2.2.2.2.1.2.1) 3 : Nat), .int .i64 o.2.2.2.2.1.2.2.1.1, .int .i64 o.2.2.2.2.1.2.2.1.2.1, .int .i64 o.2.2.2.2.1.2.2.1.2.2, .slice qv Rx.length cv, .slice ql o.2.2.2.2.2.length cl]
  have e_ : Ext w2 ((((w2.alloc (.cells #[.string ⟨#[]⟩, .slice none 0 0, .string ⟨#[]⟩] 24)).alloc (.cells #[.int .i64 0, .int .u64 0, .int .u64 0, .string ⟨#[]⟩, .int .u64 0, .int .u64 0, .int .u64 0, .int .u64 0, .string ⟨#[]⟩, .int .u64 0, .int .u64 0, .int .u64 0, .int .u64 0, .int .i64 0, .int .i64 0, .int .i64 0, .slice none 0 0, .slice none 0 0] 33)).setRow w2.heap.size #[.string t.1, .slice qx t.2.1.length cx, .string t.2.2]).setRow (w2.heap.size + 1) #[.int .i64 o.1, .int .u64 (o.2.1.1 : Nat), .int .u64 (o.2.1.2 : Nat), .string o.2.2.1, .int .u64 ((vG o.2.2.2.1) 0 : Nat), .int .u64 ((vG o.2.2.2.1) 1 : Nat), .int .u64 ((vG o.2.2.2.1) 2 : Nat), .int .u64 ((vG o.2.2.2.1) 3 : Nat), .string o.2.2.2.2.1.1, .int .u64 ((vG o.2.2.2.2.1.2.1) 0 : Nat), .int .u64 ((vG o.2.2.2.2.1.2.1) 1 : Nat), .int .u64 ((vG o.2.2.2.2.1.2.1) 2 : Nat), .int .u64 ((vG o.2.2.2.2.1.2.1) 3 : Nat), .int .i64 o.2.2.2.2.1.2.2.1.1, .int .i64 o.2.2.2.2.1.2.2.1.2.1, .int .i64 o.2.2.2.2.1.2.2.1.2.2, .slice qv Rx.length cv, .slice ql o.2.2.2.2.2.length cl]) := Ext.setRow (Ext.setRow (((Ext.refl w2).alloc _).alloc _) (Nat.le_refl _) _) (Nat.le_succ _) _
  clear hsz
  go_upto_region 5 with (first | (refine wpList_store_row (cells := #[.string t.1, .slice qx t.2.1.length cx, .string t.2.2]) rfl 24 _ _ rfl w2.heap.size rfl rfl _ _ r1 (by kernel_rfl) rfl (by first | rfl | decide | simp [Value.oneCell']) ?_) | (refine wpList_store_row (cells := #[.int .i64 o.1, .int .u64 (o.2.1.1 : Nat), .int .u64 (o.2.1.2 : Nat), .string o.2.2.1, .int .u64 ((vG o.2.2.2.1) 0 : Nat), .int .u64 ((vG o.2.2.2.1) 1 : Nat), .int .u64 ((vG o.2.2.2.1) 2 : Nat), .int .u64 ((vG o.2.2.2.1) 3 : Nat), .string o.2.2.2.2.1.1, .int .u64 ((vG o.2.2.2.2.1.2.1) 0 : Nat), .int .u64 ((vG o.2.2.2.2.1.2.1) 1 : Nat), .int .u64 ((vG o.2.2.2.2.1.2.1) 2 : Nat), .int .u64 ((vG o.2.2.2.2.1.2.1) 3 : Nat), .int .i64 o.2.2.2.2.1.2.2.1.1, .int .i64 o.2.2.2.2.1.2.2.1.2.1, .int .i64 o.2.2.2.2.1.2.2.1.2.2, .slice qv Rx.length cv, .slice ql o.2.2.2.2.2.length cl]) rfl 33 _ _ rfl (w2.heap.size + 1) rfl rfl _ _ r3 (by kernel_rfl) rfl (by first | rfl | decide | simp [Value.oneCell']) ?_))
  clear r1 r2 r3
  replace hE := hE.trans e_
  replace hT_ := hT_.ext e_
  replace hV_ := hV_.ext e_
  clear e_
  generalize (((w2.alloc (.cells #[.string ⟨#[]⟩, .slice none 0 0, .string ⟨#[]⟩] 24)).alloc (.cells #[.int .i64 0, .int .u64 0, .int .u64 0, .string ⟨#[]⟩, .int .u64 0, .int .u64 0, .int .u64 0, .int .u64 0, .string ⟨#[]⟩, .int .u64 0, .int .u64 0, .int .u64 0, .int .u64 0, .int .i64 0, .int .i64 0, .int .i64 0, .slice none 0 0, .slice none 0 0] 33)).setRow w2.heap.size #[.string t.1, .slice qx t.2.1.length cx, .string t.2.2]).setRow (w2.heap.size + 1) #[.int .i64 o.1, .int .u64 (o.2.1.1 : Nat), .int .u64 (o.2.1.2 : Nat), .string o.2.2.1, .int .u64 ((vG o.2.2.2.1) 0 : Nat), .int .u64 ((vG o.2.2.2.1) 1 : Nat), .int .u64 ((vG o.2.2.2.1) 2 : Nat), .int .u64 ((vG o.2.2.2.1) 3 : Nat), .string o.2.2.2.2.1.1, .int .u64 ((vG o.2.2.2.2.1.2.1) 0 : Nat), .int .u64 ((vG o.2.2.2.2.1.2.1) 1 : Nat), .int .u64 ((vG o.2.2.2.2.1.2.1) 2 : Nat), .int .u64 ((vG o.2.2.2.2.1.2.1) 3 : Nat), .int .i64 o.2.2.2.2.1.2.2.1.1, .int .i64 o.2.2.2.2.1.2.2.1.2.1, .int .i64 o.2.2.2.2.1.2.2.1.2.2, .slice qv Rx.length cv, .slice ql o.2.2.2.2.2.length cl] = w3 at *
  generalize w2.heap.size + 1 = b5 at *
  generalize w2.heap.size = b4 at *
  go_wp2_with (first | (refine wpList_load_row_g (by kernel_rfl) 24 _ rfl b4 rfl _ _ _ _ hB4 Tryz.underlying24 rfl (by kernel_rfl) ?_) | (refine wpList_load_row_g (by kernel_rfl) 33 _ rfl b5 rfl _ _ _ _ hB5 Tryz.underlying33 rfl (by kernel_rfl) ?_))
  refine (CP.out _ _ _ hT_ hV_ hE).mono ?_; rintro e_ w4 ⟨rfl, h4⟩
  replace hE := hE.trans h4
  replace hT_ := hT_.ext h4
  replace hV_ := hV_.ext h4
  replace hB4 := hB4.ext h4
  replace hB5 := hB5.ext h4
  clear h4
  go_wp2_with (first | (refine wpList_load_row_g (by kernel_rfl) 33 _ rfl b5 rfl _ _ _ _ hB5 Tryz.underlying33 rfl (by kernel_rfl) ?_))
  refine (CR.out _ _ hV_ hE).mono ?_; rintro e_ w5 ⟨rfl, h5⟩
  replace hE := hE.trans h5
  replace hT_ := hT_.ext h5
  replace hV_ := hV_.ext h5
  replace hB4 := hB4.ext h5
  replace hB5 := hB5.ext h5
  clear h5
  go_wp2
  go_ret
  exact ⟨by simp, hE⟩
end Go.Proofs.YtefjdmjkofaajaaGreatDoor
