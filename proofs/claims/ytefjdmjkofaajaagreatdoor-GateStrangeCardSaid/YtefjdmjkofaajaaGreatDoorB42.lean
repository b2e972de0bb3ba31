/- Texts one behind the other: Chapter 19: tokens and ops among the values; the walk of Put; Chapter 19: the walk of Allow. -/
import Derived.Test.YtefjdmjkofaajaaGreatDoorB40
import Derived.Test.YtefjdmjkofaajaaGreatDoorB41
namespace Go.Dm
open Go Go.RowKit
/-- A value that holds an op. -/
def OpAt (w : World) (V : Value) (o : OpQ) : Prop :=
 ∃ v l R, V = opV o.1 o.2.1.1 o.2.1.2 o.2.2.1 (vG o.2.2.2.1) o.2.2.2.2.1.1 (vG o.2.2.2.2.1.2.1) o.2.2.2.2.1.2.2.1 v l ∧ Terms w v R ∧ FitR R ∧ R.length ≤ 35184372088832 ∧ R.map rowT = o.2.2.2.2.1.2.2.2 ∧ Pairs w l o.2.2.2.2.2 ∧ OkO o
theorem OpAt.ext {w w' : World} {V : Value} {o : OpQ} (h : OpAt w V o) (hx : Ext w w') : OpAt w' V o := by
 obtain ⟨v, l, R, h1, h2, h3, h4, h5, h6, h7⟩ := h
 exact ⟨v, l, R, h1, h2.ext hx, h3, h4, h5, h6.ext hx, h7⟩
/-- A value that holds a token. -/
def TokAt (w : World) (T : Value) (t : TokQ) : Prop := ∃ v, T = .agg #[.string t.1, v, .string t.2.2] ∧ Cavs w v t.2.1 ∧ OkT t
theorem TokAt.ext {w w' : World} {T : Value} {t : TokQ} (h : TokAt w T t) (hx : Ext w w') : TokAt w' T t := by
 obtain ⟨v, h1, h2, h3⟩ := h
 exact ⟨v, h1, Sl.ext h2 hx, h3⟩
/-- A value that holds a token, of whose sum nothing is known. -/
def TokC (w : World) (T : Value) (t : TokQ) : Prop := ∃ v, T = .agg #[.string t.1, v, .string t.2.2] ∧ Cavs w v t.2.1 ∧ t.1.size ≤ 140737488351232 ∧ t.2.1.length ≤ 4398046511103 ∧ ∀ c ∈ t.2.1, U64 c.2
theorem TokC.ext {w w' : World} {T : Value} {t : TokQ} (h : TokC w T t) (hx : Ext w w') : TokC w' T t := by
 obtain ⟨v, h1, h2, h3⟩ := h
 exact ⟨v, h1, Sl.ext h2 hx, h3⟩
theorem TokAt.c {w : World} {T : Value} {t : TokQ} (h : TokAt w T t) : TokC w T t := by
 obtain ⟨v, h1, h2, h3⟩ := h
 exact ⟨v, h1, h2, h3.tn, h3.len, h3.n⟩
/-- P19.2. -/
def putG (t : TokQ) (o : OpQ) : Bs := if putTok t = [] ∨ putO o = [] then [] else putTok t ++ putO o
theorem caves_len : ∀ {L : List Cav}, (∀ c ∈ L, U64 c.2) → (L.flatMap putC).length ≤ 20 * L.length
 | [], _ => by simp
 | c :: L, h => by
  have h1 := putC_len (h c (List.mem_cons_self ..))
  have h2 := caves_len (L := L) (fun x hx => h x (List.mem_cons_of_mem _ hx))
  rw [List.flatMap_cons, List.length_append, List.length_cons]; omega
theorem putTok_len {t : TokQ} (h : OkT t) : (putTok t).length ≤ 1000 := by
 unfold putTok
 by_cases hc : rightL t.1.data.toList = true ∧ fitsC t.2.1 = true ∧ t.2.2.size = 32
 ·rw [if_pos hc]
  have h1 := right_len hc.1
  have h2 : t.2.1.length ≤ 8 := by have := hc.2.1; unfold fitsC at this; simp at this; exact this.1
  have h3 := caves_len h.n
  have h4 := putL_ten (u := t.1.data.toList.length) (Nat.lt_of_le_of_lt h1 (by decide))
  have h5 := putL_ten (u := t.2.1.length) (Nat.lt_of_le_of_lt h2 (by decide))
  have h6 : t.2.2.data.toList.length = 32 := hc.2.2
  unfold putT
  rw [List.length_append, List.length_append, List.length_append, List.length_append]; omega
 ·rw [if_neg hc]; simp
theorem cond_len {b : Bool} {l : Bs} {n : Nat} (h : l.length ≤ n) : (cond b l []).length ≤ n := by
 cases b
 ·simp
 ·exact h
theorem putO_len {o : OpQ} (h : OkO o) : (putO o).length ≤ 5000 := by
 unfold putO
 by_cases hr : rightO o = true
 ·rw [if_pos hr]
  obtain ⟨k, hk, h1, h13, h98⟩ := rightO_kind hr
  have p0 : (putL o.1.toNat).length ≤ 10 := putL_ten (by rw [hk]; exact Nat.lt_of_le_of_lt h13 (by decide))
  have p1 := cond_len (b := ((knownF o.1).getD noFld).1) (putL_ten h.i)
  have p2 := cond_len (b := ((knownF o.1).getD noFld).2.1) (putL_ten h.n)
  have p3 := cond_len (b := ((knownF o.1).getD noFld).2.2.1) (l := putT o.2.2.1.data.toList) (n := 108) (by
   have h9 : o.2.2.1.data.toList.length ≤ 98 := h98
   have := putL_ten (u := o.2.2.1.data.toList.length) (Nat.lt_of_le_of_lt h9 (by decide))
   unfold putT
   rw [List.length_append]; omega)
  have p4 := cond_len (b := ((knownF o.1).getD noFld).2.2.2.1) (putV_40 h.d)
  have p5 := cond_len (b := ((knownF o.1).getD noFld).2.2.2.2.1) (putX_short (x := o.2.2.2.2.1) h.e)
  have p6 := cond_len (b := ((knownF o.1).getD noFld).2.2.2.2.2) (putLab_700 (labL o.2.2.2.2.2))
  unfold putsOf
  simp only [List.length_append]; omega
 ·rw [if_neg hr]; simp
theorem emptyB (l : Bs) : ((⟨l.toArray⟩ : ByteArray).toList == []) = decide (l = []) := by
 rw [ByteArray.toList_eq]
 cases l <;> simp
end Go.Dm
namespace Go.Proofs.YtefjdmjkofaajaaGreatDoor
open Go.RowKit Go.Dm
theorem rightA {w : World} {V : Value} {o : OpQ} (h : OpAt w V o) (hv : Vars w) : Calls Tryz.prog 25 #[V] w fun e w' => e = .returned (.bool (rightO o)) ∧ Ext w w' := by
 obtain ⟨v, l, R, rfl, h2, h3, h4, h5, h6, h7⟩ := h
 obtain ⟨k, ⟨i, n⟩, p, d, ⟨s, e, m, tt⟩, P⟩ := o
 obtain rfl : R.map rowT = tt := h5
 exact aright_w k i n p d s e m v l R P w h7.k h7.d h7.s h7.e h4 h3 h2 h7.p h7.f h6 hv
theorem putA {w : World} {V : Value} {o : OpQ} (h : OpAt w V o) (hv : Vars w) : Calls Tryz.prog 27 #[V] w fun e w' => e = .returned (.string ⟨(putO o).toArray⟩) ∧ Ext w w' := by
 obtain ⟨v, l, R, rfl, h2, h3, h4, h5, h6, h7⟩ := h
 obtain ⟨k, ⟨i, n⟩, p, d, ⟨s, e, m, tt⟩, P⟩ := o
 obtain rfl : R.map rowT = tt := h5
 exact aput_w k i n p d s e m v l R P w h7.k h7.i h7.n h7.d h7.s h7.e h4 h3 h2 h7.p h7.f h6 hv
theorem opAt_kind {w : World} {V : Value} {o : OpQ} (h : OpAt w V o) : KindAt V o.1 := by
 obtain ⟨v, l, R, rfl, _⟩ := h
 exact ⟨_, _, _, _, _, _, _, _, _, _, _, _, _, _, _, _, _, rfl⟩
theorem needsA {w : World} {V : Value} {o : OpQ} (h : OpAt w V o) (hg : GateV w) : Calls Tryz.prog 13 #[V] w fun e w' => e = .returned (needsV o.1) ∧ Ext w w' := by
 exact needs_w o.1 V w (opAt_kind h) hg
theorem putTA {w : World} {T : Value} {t : TokQ} (h : TokAt w T t) (hv : Vars w) : Calls Tryz.prog 26 #[T] w fun e w' => e = .returned (.string ⟨(putTok t).toArray⟩) ∧ Ext w w' := by
 obtain ⟨v, rfl, h2, h3⟩ := h
 exact mput_w t.1 t.2.2 v t.2.1 w h3.tn h3.sg h3.len h3.n h2 hv
theorem checkA {w : World} {T : Value} {t : TokQ} (key : ByteArray) (hk : key.size ≤ 281474976710656) (h : TokC w T t) (hv : ShaV w) : Calls Tryz.prog 28 #[.string key, T] w fun e w' => e = .returned (.bool (checkT key.data.toList t)) ∧ Ext w w' := by
 obtain ⟨v, rfl, h2, h3, h4, h5⟩ := h
 exact check_w key t.1 t.2.2 v t.2.1 w hk (by omega) h4 h5 h2 hv
theorem allowsA {w : World} {T : Value} {t : TokQ} (right round : Nat) (h : TokC w T t) : Calls Tryz.prog 29 #[T, .int .u64 (right : Nat), .int .u64 (round : Nat)] w fun e w' => e = .returned (.bool (allowC t.2.1 right round)) ∧ Ext w w' := by
 obtain ⟨v, rfl, h2, h3, h4, h5⟩ := h
 exact allows_w t.1 t.2.2 v t.2.1 right round w (by omega) h5 h2

set_option maxHeartbeats 2000000 in
set_option maxRecDepth 100000 in
theorem gput_w (T V : Value) (t : TokQ) (o : OpQ) (w : World) (ht : TokAt w T t) (ho : OpAt w V o) (hv : Vars w) :
  Calls Tryz.prog 15 #[T, V] w fun e w' => e = .returned (.string ⟨(putG t o).toArray⟩) ∧ Ext w w' := by
 have CT := fun U (h : Ext w U) => putTA (ht.ext h) (hv.ext h)
 have CO := fun U (h : Ext w U) => putA (ho.ext h) (hv.ext h)
 have zT : (⟨(putTok t).toArray⟩ : ByteArray).size ≤ 1000 := by
  obtain ⟨_, _, _, h3⟩ := ht
  rw [size_len]; exact putTok_len h3
 have zO : (⟨(putO o).toArray⟩ : ByteArray).size ≤ 5000 := by
  obtain ⟨_, _, _, _, _, _, _, _, _, h7⟩ := ho
  rw [size_len]; exact putO_len h7
 have eT := emptyB (putTok t)
 have eO := emptyB (putO o)
 have hG : (⟨(putG t o).toArray⟩ : ByteArray) = if putTok t = [] ∨ putO o = [] then ⟨#[]⟩ else ⟨(putTok t).toArray⟩ ++ ⟨(putO o).toArray⟩ := by
  unfold putG
  by_cases h : putTok t = [] ∨ putO o = []
  ·rw [if_pos h, if_pos h]
  ·rw [if_neg h, if_neg h]
   exact (mk_bytes (by rw [data_append])).symm
 obtain ⟨vt, rfl, hcv, _⟩ := ht
 obtain ⟨qt, ct, rfl, _, _⟩ := hcv.shape
 obtain ⟨v, l, R, rfl, hT, _, _, _, hP, _⟩ := ho
 obtain ⟨qv, cv, rfl, _, _⟩ := hT.shape
 obtain ⟨ql, cl, rfl, _, _⟩ := hP.shape
 clear hcv hT hP
 obtain ⟨tn, L, sg⟩ := t
 obtain ⟨k, ⟨i, n⟩, p, d, ⟨s, e, m, tt⟩, P⟩ := o
 unfold opV at CO ⊢
 simp only at CT CO hG zT zO eT eO ⊢
 generalize (⟨(putG (tn, L, sg) (k, (i, n), p, d, (s, e, m, tt), P)).toArray⟩ : ByteArray) = TG at *
 generalize (⟨(putTok (tn, L, sg)).toArray⟩ : ByteArray) = TA at *
 generalize (⟨(putO (k, (i, n), p, d, (s, e, m, tt), P)).toArray⟩ : ByteArray) = TB at *
 generalize putTok (tn, L, sg) = la at *
 generalize putO (k, (i, n), p, d, (s, e, m, tt), P) = lb at *
 have hB : RB w.heap.size 24 [.string tn, .slice qt L.length ct, .string sg] (w.alloc (.cells #[.string tn, .slice qt L.length ct, .string sg] 24)) := RB.new w 24 [.string tn, .slice qt L.length ct, .string sg]
 have hE : Ext w (w.alloc (.cells #[.string tn, .slice qt L.length ct, .string sg] 24)) := (Ext.refl _).alloc _
 generalize hW1 : w.alloc (.cells #[.string tn, .slice qt L.length ct, .string sg] 24) = w1 at *
 have hA : RB w1.heap.size 33 [.int .i64 k, .int .u64 (i : Nat), .int .u64 (n : Nat), .string p, .int .u64 ((vG d) 0 : Nat), .int .u64 ((vG d) 1 : Nat), .int .u64 ((vG d) 2 : Nat), .int .u64 ((vG d) 3 : Nat), .string s, .int .u64 ((vG e) 0 : Nat), .int .u64 ((vG e) 1 : Nat), .int .u64 ((vG e) 2 : Nat), .int .u64 ((vG e) 3 : Nat), .int .i64 m.1, .int .i64 m.2.1, .int .i64 m.2.2, .slice qv R.length cv, .slice ql P.length cl] (w1.alloc (.cells #[.int .i64 k, .int .u64 (i : Nat), .int .u64 (n : Nat), .string p, .int .u64 ((vG d) 0 : Nat), .int .u64 ((vG d) 1 : Nat), .int .u64 ((vG d) 2 : Nat), .int .u64 ((vG d) 3 : Nat), .string s, .int .u64 ((vG e) 0 : Nat), .int .u64 ((vG e) 1 : Nat), .int .u64 ((vG e) 2 : Nat), .int .u64 ((vG e) 3 : Nat), .int .i64 m.1, .int .i64 m.2.1, .int .i64 m.2.2, .slice qv R.length cv, .slice ql P.length cl] 33)) := RB.new w1 33 [.int .i64 k, .int .u64 (i : Nat), .int .u64 (n : Nat), .string p, .int .u64 ((vG d) 0 : Nat), .int .u64 ((vG d) 1 : Nat), .int .u64 ((vG d) 2 : Nat), .int .u64 ((vG d) 3 : Nat), .string s, .int .u64 ((vG e) 0 : Nat), .int .u64 ((vG e) 1 : Nat), .int .u64 ((vG e) 2 : Nat), .int .u64 ((vG e) 3 : Nat), .int .i64 m.1, .int .i64 m.2.1, .int .i64 m.2.2, .slice qv R.length cv, .slice ql P.length cl]
 have hE2 : Ext w1 (w1.alloc (.cells #[.int .i64 k, .int .u64 (i : Nat), .int .u64 (n : Nat), .string p, .int .u64 ((vG d) 0 : Nat), .int .u64 ((vG d) 1 : Nat), .int .u64 ((vG d) 2 : Nat), .int .u64 ((vG d) 3 : Nat), .string s, .int .u64 ((vG e) 0 : Nat), .int .u64 ((vG e) 1 : Nat), .int .u64 ((vG e) 2 : Nat), .int .u64 ((vG e) 3 : Nat), .int .i64 m.1, .int .i64 m.2.1, .int .i64 m.2.2, .slice qv R.length cv, .slice ql P.length cl] 33)) := (Ext.refl _).alloc _
 have hs1 : w1.heap.size = w.heap.size + 1 := by rw [← hW1, World.size_alloc]
 generalize hW2 : w1.alloc (.cells #[.int .i64 k, .int .u64 (i : Nat), .int .u64 (n : Nat), .string p, .int .u64 ((vG d) 0 : Nat), .int .u64 ((vG d) 1 : Nat), .int .u64 ((vG d) 2 : Nat), .int .u64 ((vG d) 3 : Nat), .string s, .int .u64 ((vG e) 0 : Nat), .int .u64 ((vG e) 1 : Nat), .int .u64 ((vG e) 2 : Nat), .int .u64 ((vG e) 3 : Nat), .int .i64 m.1, .int .i64 m.2.1, .int .i64 m.2.2, .slice qv R.length cv, .slice ql P.length cl] 33) = w2 at *
 replace hB := hB.ext hE2
 replace hE := hE.trans hE2
 clear hE2
 obtain ⟨bA, hbA⟩ : ∃ x, w1.heap.size = x := ⟨_, rfl⟩
 obtain ⟨bB, hbB⟩ : ∃ x, w.heap.size = x := ⟨_, rfl⟩
 rw [hbA] at hA
 rw [hbB] at hB
 rw [hbA, hbB] at hs1
 subst hs1
 replace CT := Lib.hid CT
 replace CO := Lib.hid CO
 replace hG := Lib.hid hG
 have bl := hB.lt
 have c0 : w2.cell? ⟨bB, 0, none⟩ = some (.string tn) := hB.cell 0
 have c1 : w2.cell? ⟨bB, 1, none⟩ = some (.slice qt L.length ct) := hB.cell 1
 have c2 : w2.cell? ⟨bB, 2, none⟩ = some (.string sg) := hB.cell 2
 go_enter Tryz.func15, Tryz.ntmps15
 go_upto_region 1 with fail
 clear hW1 hW2 hbA hbB
 generalize bB + 1 = bA at *
 try simp only [Act.put, List.setIfInBounds_toArray, List.set_cons_succ, List.set_cons_zero]
 refine Dm.wp_region_ext 6 (Dm.bits 6 0) (Ext.refl w2) (by kernel_rfl) (by kernel_rfl) (by kernel_rfl) ?_
 refine Dm.wpE_take (i := 0) (listed' := (Dm.bits 6 1)) (by kernel_rfl) (by kernel_rfl) rfl (fun _ _ _ _ h => h) ?_; apply Exists.intro; refine And.intro (fun x => ?_) ?_
 ·go_big_quiet_step (fail); exact wpQuiet_nil rfl
 refine Dm.wpE_take (i := 1) (listed' := (Dm.bits 6 3)) (by kernel_rfl) (by kernel_rfl) rfl (fun _ _ _ _ h => h) ?_; apply Exists.intro; refine And.intro (fun x => ?_) ?_
 ·go_big_quiet_step ((first | (go_at_call 26; with_reducible exact Calls.quietE (CT.out _ (hE.trans (by repeat (first | assumption | exact Ext.refl _ | refine Ext.trans ?_ (ext_grow _ _)))))) | (go_at_call 27; with_reducible exact Calls.quietE (CO.out _ (hE.trans (by repeat (first | assumption | exact Ext.refl _ | refine Ext.trans ?_ (ext_grow _ _)))))))); exact wpQuiet_nil rfl
 refine Dm.wpE_take (i := 2) (listed' := (Dm.bits 6 7)) (by kernel_rfl) (by kernel_rfl) rfl (fun _ _ _ _ h => h) ?_; apply Exists.intro; refine And.intro (fun x => ?_) ?_
 ·go_big_quiet_want; refine quiet_load_row 33 _ rfl bA rfl _ _ _ _ (fun _ hw => by obtain ⟨_, rfl⟩ := hw; exact hA.ext (by repeat (first | assumption | exact Ext.refl _ | refine Ext.trans ?_ (ext_grow _ _)))) Tryz.underlying33 rfl (by kernel_rfl) ?_; simp only [Act.put, List.setIfInBounds_toArray, List.set_cons_succ, List.set_cons_zero]; go_big_quiet_on; exact wpQuiet_nil rfl
 refine Dm.wpE_take (i := 3) (listed' := (Dm.bits 6 15)) (by kernel_rfl) (by kernel_rfl) rfl (fun _ _ _ _ h => h) ?_; apply Exists.intro; refine And.intro (fun x => ?_) ?_
 ·go_big_quiet_step ((first | (go_at_call 26; with_reducible exact Calls.quietE (CT.out _ (hE.trans (by repeat (first | assumption | exact Ext.refl _ | refine Ext.trans ?_ (ext_grow _ _)))))) | (go_at_call 27; with_reducible exact Calls.quietE (CO.out _ (hE.trans (by repeat (first | assumption | exact Ext.refl _ | refine Ext.trans ?_ (ext_grow _ _)))))))); exact wpQuiet_nil rfl
 refine Dm.wpE_take (i := 4) (listed' := (Dm.bits 6 31)) (by kernel_rfl) (by kernel_rfl) rfl (fun _ _ _ _ h => h) ?_; apply Exists.intro; refine And.intro (fun x => ?_) ?_
 ·go_big_quiet_step (fail); exact wpQuiet_nil rfl
 refine Dm.wpE_take (i := 5) (listed' := (Dm.bits 6 63)) (by kernel_rfl) (by kernel_rfl) rfl (fun _ _ _ _ h => h) ?_; apply Exists.intro; refine And.intro (fun x => ?_) ?_
 ·go_big_quiet_step (fail); exact wpQuiet_nil rfl
 refine Dm.wpE_done (by kernel_rfl) (Ext.refl w2) (fun w1a hx1a => ?_)
 have hX1a := Ext.trans (Ext.refl w2) hx1a
 clear bl c0 c1 c2
 by_cases h1 : la = []
 ·rw [decide_eq_true h1] at eT
  go_wp2
  go_ret
  exact ⟨by rw [hG.out, if_pos (Or.inl h1)]; rfl, hE.trans hX1a⟩
 ·rw [decide_eq_false h1] at eT
  by_cases h2 : lb = []
  ·rw [decide_eq_true h2] at eO
   go_wp2
   go_ret
   exact ⟨by rw [hG.out, if_pos (Or.inr h2)]; rfl, hE.trans hX1a⟩
  ·rw [decide_eq_false h2] at eO
   go_wp2
   go_ret
   exact ⟨by rw [hG.out, if_neg (by rw [not_or]; exact ⟨h1, h2⟩)]; rfl, hE.trans hX1a⟩
end Go.Proofs.YtefjdmjkofaajaaGreatDoor

namespace Go.Dm
open Go Go.RowKit
/-- P19.3. -/
def allowK (key : Bs) (t : TokQ) (k : Int) (r : Nat) : Int := if checkT key t = false then 13 else if needsK k = 0 ∨ allowC t.2.1 (needsK k) r = false then 14 else 0
def allowG (key : Bs) (t : TokQ) (o : OpQ) (r : Nat) : Int := if checkT key t = false then 13 else if needsK o.1 = 0 ∨ allowC t.2.1 (needsK o.1) r = false then 14 else 0
end Go.Dm
namespace Go.Proofs.YtefjdmjkofaajaaGreatDoor
open Go.RowKit Go.Dm

set_option maxHeartbeats 2000000 in
set_option maxRecDepth 100000 in
theorem gallowK_w (key : ByteArray) (T V : Value) (t : TokQ) (k : Int) (r : Nat) (w : World) (hk : key.size ≤ 281474976710656) (ht : TokC w T t) (ho : KindAt V k) (hv : ShaV w) (hg : GateV w) :
  Calls Tryz.prog 18 #[.string key, T, V, .int .u64 (r : Nat)] w fun e w' => e = .returned (.int .i64 (allowK key.data.toList t k r)) ∧ Ext w w' := by
 have CC := fun U (h : Ext w U) => checkA key hk (ht.ext h) (hv.ext h)
 have CN := fun U (h : Ext w U) => needs_w k V U ho (hg.ext h)
 have CA := fun U (h : Ext w U) => allowsA (needsK k) r (ht.ext h)
 have hG : allowK key.data.toList t k r = if checkT key.data.toList t = false then 13 else if needsK k = 0 ∨ allowC t.2.1 (needsK k) r = false then 14 else 0 := rfl
 obtain ⟨vt, rfl, hcv, _⟩ := ht
 obtain ⟨qt, ct, rfl, _, _⟩ := hcv.shape
 obtain ⟨v1, v2, v3, v4, v5, v6, v7, v8, v9, v10, v11, v12, v13, v14, v15, v16, v17, rfl⟩ := ho
 clear hcv
 obtain ⟨tn, L, sg⟩ := t
 unfold needsV at CN
 simp only at CC CN CA hG ⊢
 generalize allowK key.data.toList (tn, L, sg) k r = G at *
 generalize checkT key.data.toList (tn, L, sg) = ck at *
 generalize allowC L (needsK k) r = al at *
 generalize needsK k = c at *
 have hB : RB w.heap.size 24 [.string tn, .slice qt L.length ct, .string sg] (w.alloc (.cells #[.string tn, .slice qt L.length ct, .string sg] 24)) := RB.new w 24 [.string tn, .slice qt L.length ct, .string sg]
 have hE : Ext w (w.alloc (.cells #[.string tn, .slice qt L.length ct, .string sg] 24)) := (Ext.refl _).alloc _
 generalize hW1 : w.alloc (.cells #[.string tn, .slice qt L.length ct, .string sg] 24) = w1 at *
 have hA : RB w1.heap.size 33 [.int .i64 k, v1, v2, v3, v4, v5, v6, v7, v8, v9, v10, v11, v12, v13, v14, v15, v16, v17] (w1.alloc (.cells #[.int .i64 k, v1, v2, v3, v4, v5, v6, v7, v8, v9, v10, v11, v12, v13, v14, v15, v16, v17] 33)) := RB.new w1 33 [.int .i64 k, v1, v2, v3, v4, v5, v6, v7, v8, v9, v10, v11, v12, v13, v14, v15, v16, v17]
 have hE2 : Ext w1 (w1.alloc (.cells #[.int .i64 k, v1, v2, v3, v4, v5, v6, v7, v8, v9, v10, v11, v12, v13, v14, v15, v16, v17] 33)) := (Ext.refl _).alloc _
 have hs1 : w1.heap.size = w.heap.size + 1 := by rw [← hW1, World.size_alloc]
 generalize hW2 : w1.alloc (.cells #[.int .i64 k, v1, v2, v3, v4, v5, v6, v7, v8, v9, v10, v11, v12, v13, v14, v15, v16, v17] 33) = w2 at *
 replace hB := hB.ext hE2
 replace hE := hE.trans hE2
 clear hE2
 obtain ⟨bA, hbA⟩ : ∃ x, w1.heap.size = x := ⟨_, rfl⟩
 obtain ⟨bB, hbB⟩ : ∃ x, w.heap.size = x := ⟨_, rfl⟩
 rw [hbA] at hA
 rw [hbB] at hB
 rw [hbA, hbB] at hs1
 subst hs1
 replace CC := Lib.hid CC
 replace CN := Lib.hid CN
 replace CA := Lib.hid CA
 replace hG := Lib.hid hG
 have bl := hB.lt
 have c0 : w2.cell? ⟨bB, 0, none⟩ = some (.string tn) := hB.cell 0
 have c1 : w2.cell? ⟨bB, 1, none⟩ = some (.slice qt L.length ct) := hB.cell 1
 have c2 : w2.cell? ⟨bB, 2, none⟩ = some (.string sg) := hB.cell 2
 go_enter Tryz.func18, Tryz.ntmps18
 go_upto_region 1 with fail
 clear hW1 hW2 hbA hbB
 generalize bB + 1 = bA at *
 go_wp2_with fail
 refine (CC.out _ hE).mono ?_; rintro e_ w3 ⟨rfl, h3⟩
 clear bl c0 c1 c2
 replace hA := hA.ext h3
 replace hB := hB.ext h3
 replace hE := hE.trans h3
 clear h3
 cases ck with
 | false =>
  go_wp2
  go_ret
  exact ⟨by show Ending.returned (.int .i64 13) = _; rw [hG.out]; simp, hE⟩
 | true =>
  go_upto_region 3 with fail
  go_wp2_with (refine wpList_load_row rfl 33 _ rfl bA rfl _ _ _ _ hA Tryz.underlying33 rfl (by kernel_rfl) ?_)
  refine (CN.out _ hE).mono ?_; rintro e_ w4 ⟨rfl, h4⟩
  replace hB := hB.ext h4
  replace hE := hE.trans h4
  clear h4 hA
  have bl := hB.lt
  have c0 : w4.cell? ⟨bB, 0, none⟩ = some (.string tn) := hB.cell 0
  have c1 : w4.cell? ⟨bB, 1, none⟩ = some (.slice qt L.length ct) := hB.cell 1
  have c2 : w4.cell? ⟨bB, 2, none⟩ = some (.string sg) := hB.cell 2
  by_cases h0 : c = 0
  ·subst h0
   go_wp2
   go_ret
   exact ⟨by show Ending.returned (.int .i64 14) = _; rw [hG.out]; simp, hE⟩
  ·have h0d : decide (c ≠ 0) = true := decide_eq_true h0
   go_wp2_with fail
   refine (CA.out _ hE).mono ?_; rintro e_ w5 ⟨rfl, h5⟩
   replace hE := hE.trans h5
   clear h5 bl c0 c1 c2
   cases al with
   | false =>
    go_wp2
    go_ret
    exact ⟨by show Ending.returned (.int .i64 14) = _; rw [hG.out]; simp, hE⟩
   | true =>
    go_wp2
    go_ret
    exact ⟨by show Ending.returned (.int .i64 0) = _; rw [hG.out]; simp [h0], hE⟩
theorem gallow_w (key : ByteArray) (T V : Value) (t : TokQ) (o : OpQ) (r : Nat) (w : World) (hk : key.size ≤ 281474976710656) (ht : TokAt w T t) (ho : OpAt w V o) (hv : ShaV w) (hg : GateV w) :
  Calls Tryz.prog 18 #[.string key, T, V, .int .u64 (r : Nat)] w fun e w' => e = .returned (.int .i64 (allowG key.data.toList t o r)) ∧ Ext w w' :=
 gallowK_w key T V t o.1 r w hk ht.c (opAt_kind ho) hv hg
end Go.Proofs.YtefjdmjkofaajaaGreatDoor
