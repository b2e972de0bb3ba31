/- Texts one behind the other: Chapter 11: the walk of SpecBack. -/
import Derived.Test.YthmhalcloogniaaGreatDoorB28
import Derived.Test.YthmhalcloogniaaGreatDoorB38
import Derived.Deep.Cut
namespace Go.Dm
open Go Go.RowKit
theorem jfour_sz {a b c d S : ByteArray} (h : S = ((a ++ b) ++ c) ++ d) : S.size = a.size + b.size + c.size + d.size := by
  subst h; simp only [ByteArray.size_append]
theorem jfour_dt {a b c d S : ByteArray} (h : S = ((a ++ b) ++ c) ++ d) : S.data.toList = ((a.data.toList ++ b.data.toList) ++ c.data.toList) ++ d.data.toList := by
  subst h; simp only [data_append]
theorem jfour_le {a d S : ByteArray} {b c : Bs} (h : S = ((a ++ ⟨b.toArray⟩) ++ ⟨c.toArray⟩) ++ d) (ha : a.size ≤ 140737488351232) (hd : d.size ≤ 140737488351232) (hb : b.length ≤ 1200) (hc : c.length ≤ 1200) : S.size ≤ 281474976710656 := by
  have := jfour_sz h
  have e1 : (⟨b.toArray⟩ : ByteArray).size = b.length := rfl
  have e2 : (⟨c.toArray⟩ : ByteArray).size = c.length := rfl
  omega
theorem jback_one {x : SpQ} {c : Bs} {a d S : ByteArray} (hc : chkX x = 0) (ho : OkV x.2.1) (h : S = ((a ++ ⟨(putB x).toArray⟩) ++ ⟨c.toArray⟩) ++ d) (hs : S.size ≤ 281474976710656) : getX S.data.toList (a.size : Int) = (x, (a.size : Int) + ((putB x).length : Int), true) := by
  have hU : U64 S.data.toList.length := Nat.lt_of_le_of_lt (show S.size ≤ _ from hs) (by decide)
  refine getX_at hc ho (a := a.data.toList) (b := c ++ d.data.toList) ?_ hU
  rw [jfour_dt h]
  simp only [List.append_assoc]
theorem jback_two {x : SpQ} {b : Bs} {a d S : ByteArray} (hc : chkX x = 0) (ho : OkV x.2.1) (h : S = ((a ++ ⟨b.toArray⟩) ++ ⟨(putB x).toArray⟩) ++ d) (hs : S.size ≤ 281474976710656) : getX S.data.toList ((a.size : Int) + (b.length : Int)) = (x, ((a.size : Int) + (b.length : Int)) + ((putB x).length : Int), true) := by
  have hU : U64 S.data.toList.length := Nat.lt_of_le_of_lt (show S.size ≤ _ from hs) (by decide)
  have e : ((a.data.toList ++ b).length : Int) = (a.size : Int) + (b.length : Int) := by rw [List.length_append, size_len]; omega
  rw [← e]
  refine getX_at hc ho (a := a.data.toList ++ b) (b := d.data.toList) ?_ hU
  rw [jfour_dt h]
  simp only [List.append_assoc]
theorem jwords_six {x : SpQ} (hc : chkX x = 0) {xs : List ByteArray} (h : splitC 32 (textX x) = bytesOf xs) : xs.length = 6 := by
  rw [words_split hc] at h
  have := congrArg List.length h
  simp only [wordsX, bytesOf, List.length_cons, List.length_nil, List.length_map] at this
  omega
end Go.Dm
namespace Go.Proofs.YthmhalcloogniaaGreatDoor
open Go.RowKit Go.Dm
theorem xsamem_w (zs ys : List Int) (v v2 : Value) (R R2 : List RowS) (U : World) (hz : ∀ z ∈ zs, 0 ≤ z ∧ z ≤ 255) (hz' : ∀ z ∈ ys, 0 ≤ z ∧ z ≤ 255) (hy : Terms U v R) (hR : R.map rowT = madeT zs) (hy2 : Terms U v2 R2) (hR2 : R2.map rowT = madeT ys) :
    Calls Tryz.prog 21 #[spVal (madePa zs) (vG (madeD zs)) (madeN zs) v, spVal (madePa ys) (vG (madeD ys)) (madeN ys) v2] U fun e w' => e = .returned (.bool (sameX (madeX zs) (madeX ys))) ∧ Ext U w' := by
  have h := xsame_w (madePa zs) (madeD zs) (madeN zs) v R (madePa ys) (madeD ys) (madeN ys) v2 R2 U (madeD_ok hz) (madeD_ok hz') (by have := (jmade_fit hR).2; omega) (jmade_fit hR).1 hy hy2
  rw [hR, hR2] at h
  exact h
theorem xgetm_w (zs : List Int) (S : ByteArray) (p n : Int) (U : World) (hs : S.size ≤ 281474976710656) (hG : getX S.data.toList p = (madeX zs, n, true)) (ht : Vars U) :
    Calls Tryz.prog 13 #[.string S, .int .i64 p] U fun e w' => (∃ v R, e = .returned (.tuple #[spVal (madePa zs) (vG (madeD zs)) (madeN zs) v, .int .i64 n, .bool true]) ∧ Terms w' v R ∧ R.map rowT = madeT zs) ∧ Ext U w' := by
  refine (xget_w S p U hs ht).mono ?_
  rintro e w' ⟨⟨v, R, h1, h2, _, _, h3, _⟩, h⟩
  rw [hG] at h1 h3
  exact ⟨⟨v, R, h1, h2, h3⟩, h⟩
theorem xparsem_w (zs : List Int) (xs : List ByteArray) (v : Value) (U : World) (hz : ∀ z ∈ zs, 0 ≤ z ∧ z ≤ 255) (hx : Strs U v xs) (hb : splitC 32 (textX (madeX zs)) = bytesOf xs) (ht : Vars U) (hv : VarsV U) :
    Calls Tryz.prog 15 #[v] U fun e w' => (∃ v R, e = .returned (.tuple #[spVal (madePa zs) (vG (madeD zs)) (madeN zs) v, .bool true]) ∧ Terms w' v R ∧ R.map rowT = madeT zs) ∧ Ext U w' := by
  have hc := madeX_chk hz
  have ho := madeX_ok hz
  have h6 := jwords_six hc hb
  have hlen := textX_len hc ho
  have hsz : ∀ x ∈ xs, x.size ≤ 1048576 := fun x hx => by
    have hm : x.data.toList ∈ splitC 32 (textX (madeX zs)) := by rw [hb]; exact List.mem_map_of_mem hx
    have := mem_splitC_len hm
    rw [← size_len] at this
    omega
  have hP : parseX (bytesOf xs) = (madeX zs, true) := by rw [← hb, words_split hc]; exact parseX_words hc ho
  refine (xparse_w xs v U (by omega) hsz hx ht hv).mono ?_
  rintro e w' ⟨⟨v, R, h1, h2, _, _, h3, _⟩, h⟩
  rw [hP] at h1 h3
  exact ⟨⟨v, R, h1, h2, h3⟩, h⟩

set_option maxHeartbeats 16000000 in
set_option maxRecDepth 100000 in
theorem specBack_w (zs ys : List Int) (ahead behind : ByteArray) (v u : Value) (w : World) (hz : ∀ z ∈ zs, 0 ≤ z ∧ z ≤ 255) (_hm : zs.length ≤ 140737488355328) (hx0 : Nums w .u8 v zs)
    (hz' : ∀ z ∈ ys, 0 ≤ z ∧ z ≤ 255) (_hm' : ys.length ≤ 140737488355328) (hy0 : Nums w .u8 u ys) (ha : ahead.size ≤ 140737488351232) (hb : behind.size ≤ 140737488351232) (ht : Vars w) (hv : VarsV w) :
    Calls Tryz.prog 4 #[v, u, .string ahead, .string behind] w fun e w' => e = .returned (.bool true) ∧ Ext w w' := by
  obtain ⟨qz, capz, rfl, _, _⟩ := hx0.shape
  obtain ⟨qy, capy, rfl, _, _⟩ := hy0.shape
  have ca := madeX_chk hz
  have cb := madeX_chk hz'
  have oa := madeX_ok hz
  have ob := madeX_ok hz'
  have CE := fun U (h : Ext w U) => xexamples_w U (ht.ext h) (hv.ext h)
  have CMa := fun U (h : Ext w U) => xmade_w zs _ U hz (hx0.ext h)
  have CMb := fun U (h : Ext w U) => xmade_w ys _ U hz' (hy0.ext h)
  have CKa := fun v R U (h : Ext w U) (hy : Terms U v R) (hR : R.map rowT = madeT zs) => xcheckm_w zs v R U hz hy hR (ht.ext h)
  have CKb := fun v R U (h : Ext w U) (hy : Terms U v R) (hR : R.map rowT = madeT ys) => xcheckm_w ys v R U hz' hy hR (ht.ext h)
  have CPa := fun v R U (h : Ext w U) (hy : Terms U v R) (hR : R.map rowT = madeT zs) => xputm_w zs v R U hz hy hR (ht.ext h)
  have CPb := fun v R U (h : Ext w U) (hy : Terms U v R) (hR : R.map rowT = madeT ys) => xputm_w ys v R U hz' hy hR (ht.ext h)
  have CTa := fun v R U (h : Ext w U) (hy : Terms U v R) (hR : R.map rowT = madeT zs) => xtextm_w zs v R U hz hy hR (ht.ext h) (hv.ext h)
  have CTb := fun v R U (h : Ext w U) (hy : Terms U v R) (hR : R.map rowT = madeT ys) => xtextm_w ys v R U hz' hy hR (ht.ext h) (hv.ext h)
  have CSab := fun v R v2 R2 U (hy : Terms U v R) (hR : R.map rowT = madeT zs) (hy2 : Terms U v2 R2) (hR2 : R2.map rowT = madeT ys) => xsamem_w zs ys v v2 R R2 U hz hz' hy hR hy2 hR2
  have CSaa := fun v R v2 R2 U (hy : Terms U v R) (hR : R.map rowT = madeT zs) (hy2 : Terms U v2 R2) (hR2 : R2.map rowT = madeT zs) => xsamem_w zs zs v v2 R R2 U hz hz hy hR hy2 hR2
  have CSbb := fun v R v2 R2 U (hy : Terms U v R) (hR : R.map rowT = madeT ys) (hy2 : Terms U v2 R2) (hR2 : R2.map rowT = madeT ys) => xsamem_w ys ys v v2 R R2 U hz' hz' hy hR hy2 hR2
  rw [show sameX (madeX zs) (madeX zs) = true from sameX_iff.2 rfl] at CSaa
  rw [show sameX (madeX ys) (madeX ys) = true from sameX_iff.2 rfl] at CSbb
  have na := putB_short ca oa
  have nb := putB_short cb ob
  have nt := textX_len ca oa
  have CGa := fun (S : ByteArray) (hS : S = ((ahead ++ ⟨(putB (madeX zs)).toArray⟩) ++ ⟨(putB (madeX ys)).toArray⟩) ++ behind) U (h : Ext w U) => xgetm_w zs S (ahead.size : Int) ((ahead.size : Int) + ((putB (madeX zs)).length : Int)) U (jfour_le hS ha hb na nb) (jback_one ca oa hS (jfour_le hS ha hb na nb)) (ht.ext h)
  have CGb := fun (S : ByteArray) (hS : S = ((ahead ++ ⟨(putB (madeX zs)).toArray⟩) ++ ⟨(putB (madeX ys)).toArray⟩) ++ behind) U (h : Ext w U) => xgetm_w ys S ((ahead.size : Int) + ((putB (madeX zs)).length : Int)) (((ahead.size : Int) + ((putB (madeX zs)).length : Int)) + ((putB (madeX ys)).length : Int)) U (jfour_le hS ha hb na nb) (jback_two cb ob hS (jfour_le hS ha hb na nb)) (ht.ext h)
  have CPr := fun (xs : List ByteArray) v U (h : Ext w U) (hx : Strs U v xs) (hb : splitC 32 (textX (madeX zs)) = bytesOf xs) => xparsem_w zs xs v U hz hx hb (ht.ext h) (hv.ext h)
  have h6 := fun (xs : List ByteArray) (hb : splitC 32 (textX (madeX zs)) = bytesOf xs) => jwords_six ca hb
  have E1 : ((⟨(putB (madeX zs)).toArray⟩ : ByteArray).toList == (⟨(putB (madeX ys)).toArray⟩ : ByteArray).toList) = sameX (madeX zs) (madeX ys) := by
    rw [ByteArray.toList_eq, ByteArray.toList_eq, Bool.eq_iff_iff, beq_iff_eq, sameX_iff]
    exact ⟨fun h => putB_inj ca cb oa ob h, fun h => by rw [h]⟩
  have E2 : ((⟨(textX (madeX zs)).toArray⟩ : ByteArray).toList == (⟨(textX (madeX ys)).toArray⟩ : ByteArray).toList) = sameX (madeX zs) (madeX ys) := by
    rw [ByteArray.toList_eq, ByteArray.toList_eq, Bool.eq_iff_iff, beq_iff_eq, sameX_iff]
    exact ⟨fun h => textX_inj ca cb oa ob h, fun h => by rw [h]⟩
  obtain ⟨Pa, hPa⟩ : ∃ P : ByteArray, P = ⟨(putB (madeX zs)).toArray⟩ := ⟨_, rfl⟩
  obtain ⟨Pb, hPb⟩ : ∃ P : ByteArray, P = ⟨(putB (madeX ys)).toArray⟩ := ⟨_, rfl⟩
  obtain ⟨Ta, hTa⟩ : ∃ P : ByteArray, P = ⟨(textX (madeX zs)).toArray⟩ := ⟨_, rfl⟩
  obtain ⟨Tb, hTb⟩ : ∃ P : ByteArray, P = ⟨(textX (madeX ys)).toArray⟩ := ⟨_, rfl⟩
  have sPa : (putB (madeX zs)).length = Pa.size := by rw [hPa]; rfl
  have sPb : (putB (madeX ys)).length = Pb.size := by rw [hPb]; rfl
  have sTa : (textX (madeX zs)).length = Ta.size := by rw [hTa]; rfl
  have dTa : textX (madeX zs) = Ta.data.toList := by rw [hTa]
  rw [← hPa] at CPa E1
  rw [← hPb] at CPb E1
  rw [← hTa] at CTa E2
  rw [← hTb] at CTb E2
  simp only [← hPa, ← hPb, sPa, sPb] at CGa CGb
  rw [sPa] at na
  rw [sPb] at nb
  rw [sTa] at nt
  simp only [dTa] at CPr h6
  clear hPa hPb hTa hTb sPa sPb sTa dTa ca cb oa ob hz hz' hx0 hy0
  generalize sameX (madeX zs) (madeX ys) = sm at *
  generalize madePa zs = sa at *
  generalize madePa ys = sb at *
  generalize vG (madeD zs) = Da at *
  generalize vG (madeD ys) = Db at *
  generalize madeN zs = na' at *
  generalize madeN ys = nb' at *
  generalize madeT zs = TA at *
  generalize madeT ys = TB at *
  unfold spVal at CMa CMb CKa CKb CPa CPb CTa CTb CSab CSaa CSbb CGa CGb CPr
  replace CE := Lib.hid CE
  replace CMa := Lib.hid CMa
  replace CMb := Lib.hid CMb
  replace CKa := Lib.hid CKa
  replace CKb := Lib.hid CKb
  replace CPa := Lib.hid CPa
  replace CPb := Lib.hid CPb
  replace CTa := Lib.hid CTa
  replace CTb := Lib.hid CTb
  replace CSab := Lib.hid CSab
  replace CSaa := Lib.hid CSaa
  replace CSbb := Lib.hid CSbb
  replace CGa := Lib.hid CGa
  replace CGb := Lib.hid CGb
  replace CPr := Lib.hid CPr
  replace h6 := Lib.hid h6
  replace ht := Lib.hid ht
  replace hv := Lib.hid hv
  generalize na' = n1 at *
  generalize nb' = n2 at *
  go_enter Tryz.func4, Tryz.ntmps4
  go_wp2_with fail
  refine (CE.out _ (Ext.refl _)).mono ?_; rintro e w1 ⟨rfl, hE⟩
  go_wp2_with fail
  refine (CMa.out _ hE).mono ?_; rintro e w2 ⟨v1, R1, rfl, t1, m1, h2⟩
  obtain ⟨q1, c1, rfl, _, _⟩ := t1.shape
  replace m1 := Lib.hid m1
  replace hE := hE.trans h2
  clear h2 CE CMa
  have b1 := XBox.new w2 sa Da n1 (.slice q1 R1.length c1) 27
  have ee := (Ext.refl w2).alloc (.cells #[.string sa, .int .u64 (Da 0 : Nat), .int .u64 (Da 1 : Nat), .int .u64 (Da 2 : Nat), .int .u64 (Da 3 : Nat), .int .i64 n1.1, .int .i64 n1.2.1, .int .i64 n1.2.2, .slice q1 R1.length c1] 27)
  replace hE := hE.trans ee
  replace t1 := t1.ext ee
  clear ee
  go_wp2_with fail
  generalize hw : w2.alloc (.cells #[.string sa, .int .u64 (Da 0 : Nat), .int .u64 (Da 1 : Nat), .int .u64 (Da 2 : Nat), .int .u64 (Da 3 : Nat), .int .i64 n1.1, .int .i64 n1.2.1, .int .i64 n1.2.2, .slice q1 R1.length c1] 27) = w3 at *
  generalize hb : w2.heap.size = l1 at *
  clear hw hb
  refine (CMb.out _ hE).mono ?_; rintro e w4 ⟨v2, R2, rfl, t2, m2, h4⟩
  obtain ⟨q2, c2, rfl, _, _⟩ := t2.shape
  replace m2 := Lib.hid m2
  replace hE := hE.trans h4
  replace t1 := t1.ext h4
  replace b1 := b1.ext h4
  clear h4 CMb
  have b2 := XBox.new w4 sb Db n2 (.slice q2 R2.length c2) 27
  have ee := (Ext.refl w4).alloc (.cells #[.string sb, .int .u64 (Db 0 : Nat), .int .u64 (Db 1 : Nat), .int .u64 (Db 2 : Nat), .int .u64 (Db 3 : Nat), .int .i64 n2.1, .int .i64 n2.2.1, .int .i64 n2.2.2, .slice q2 R2.length c2] 27)
  replace hE := hE.trans ee
  replace t1 := t1.ext ee
  replace b1 := b1.ext ee
  replace t2 := t2.ext ee
  clear ee
  obtain ⟨xl, x0, x1, x2, x3, x4, x5, x6, x7, x8⟩ := b1.cells
  go_wp2_with fail
  generalize hw : w4.alloc (.cells #[.string sb, .int .u64 (Db 0 : Nat), .int .u64 (Db 1 : Nat), .int .u64 (Db 2 : Nat), .int .u64 (Db 3 : Nat), .int .i64 n2.1, .int .i64 n2.2.1, .int .i64 n2.2.2, .slice q2 R2.length c2] 27) = w5 at *
  generalize hb : w4.heap.size = l2 at *
  clear hw hb
  clear xl x0 x1 x2 x3 x4 x5 x6 x7 x8
  refine (CKa.out _ _ _ hE t1 m1.out).mono ?_; rintro e w6 ⟨rfl, h6'⟩
  replace hE := hE.trans h6'
  replace t1 := t1.ext h6'
  replace b1 := b1.ext h6'
  replace t2 := t2.ext h6'
  replace b2 := b2.ext h6'
  clear h6'
  obtain ⟨xl, x0, x1, x2, x3, x4, x5, x6, x7, x8⟩ := b2.cells
  go_wp2_with fail
  clear xl x0 x1 x2 x3 x4 x5 x6 x7 x8
  refine (CKb.out _ _ _ hE t2 m2.out).mono ?_; rintro e w7 ⟨rfl, h7⟩
  replace hE := hE.trans h7
  replace t1 := t1.ext h7
  replace b1 := b1.ext h7
  replace t2 := t2.ext h7
  replace b2 := b2.ext h7
  clear h7 CKa CKb
  go_upto_region 8 with fail
  obtain ⟨S, hS⟩ : ∃ S : ByteArray, S = ((ahead ++ Pa) ++ Pb) ++ behind := ⟨_, rfl⟩
  replace hS := Lib.hid hS
  go_cut [12] from 26 (fun r w' => r = .string S ∧ Ext w7 w')
  case first =>
    have CA := fun U (h : Ext w7 U) => CPa.out _ _ U (hE.trans h) (t1.ext h) m1.out
    have CB' := fun U (h : Ext w7 U) => CPb.out _ _ U (hE.trans h) (t2.ext h) m2.out
    replace CA := Lib.hid CA
    replace CB' := Lib.hid CB'
    obtain ⟨xl, x0, x1, x2, x3, x4, x5, x6, x7, x8⟩ := b1.cells
    obtain ⟨yl, y0, y1, y2, y3, y4, y5, y6, y7, y8⟩ := b2.cells
    try simp only [Act.put, List.setIfInBounds_toArray, List.set_cons_succ, List.set_cons_zero]
    refine Dm.wp_region_ext 10 (Dm.bits 10 0) (Ext.refl w7) (by kernel_rfl) (by kernel_rfl) (by kernel_rfl) ?_
    refine Dm.wpE_take (i := 0) (listed' := (Dm.bits 10 1)) (by kernel_rfl) (by kernel_rfl) rfl (fun _ _ _ _ h => h) ?_; apply Exists.intro; refine And.intro (fun x => ?_) ?_
    · go_big_quiet_step ((first | (go_at_call 22; with_reducible exact Calls.quietE (CA.out _ (by repeat (first | assumption | exact Ext.refl _ | refine Ext.trans ?_ (ext_grow _ _))))) | (go_at_call 22; with_reducible exact Calls.quietE (CB'.out _ (by repeat (first | assumption | exact Ext.refl _ | refine Ext.trans ?_ (ext_grow _ _))))))); exact wpQuiet_nil rfl
    refine Dm.wpE_take (i := 1) (listed' := (Dm.bits 10 3)) (by kernel_rfl) (by kernel_rfl) rfl (fun _ _ _ _ h => h) ?_; apply Exists.intro; refine And.intro (fun x => ?_) ?_
    · go_big_quiet_step ((first | (go_at_call 22; with_reducible exact Calls.quietE (CA.out _ (by repeat (first | assumption | exact Ext.refl _ | refine Ext.trans ?_ (ext_grow _ _))))) | (go_at_call 22; with_reducible exact Calls.quietE (CB'.out _ (by repeat (first | assumption | exact Ext.refl _ | refine Ext.trans ?_ (ext_grow _ _))))))); exact wpQuiet_nil rfl
    refine Dm.wpE_take (i := 2) (listed' := (Dm.bits 10 7)) (by kernel_rfl) (by kernel_rfl) rfl (fun _ _ _ _ h => h) ?_; apply Exists.intro; refine And.intro (fun x => ?_) ?_
    · go_big_quiet_step ((first | (go_at_call 22; with_reducible exact Calls.quietE (CA.out _ (by repeat (first | assumption | exact Ext.refl _ | refine Ext.trans ?_ (ext_grow _ _))))) | (go_at_call 22; with_reducible exact Calls.quietE (CB'.out _ (by repeat (first | assumption | exact Ext.refl _ | refine Ext.trans ?_ (ext_grow _ _))))))); exact wpQuiet_nil rfl
    refine Dm.wpE_take (i := 3) (listed' := (Dm.bits 10 15)) (by kernel_rfl) (by kernel_rfl) rfl (fun _ _ _ _ h => h) ?_; apply Exists.intro; refine And.intro (fun x => ?_) ?_
    · go_big_quiet_step ((first | (go_at_call 22; with_reducible exact Calls.quietE (CA.out _ (by repeat (first | assumption | exact Ext.refl _ | refine Ext.trans ?_ (ext_grow _ _))))) | (go_at_call 22; with_reducible exact Calls.quietE (CB'.out _ (by repeat (first | assumption | exact Ext.refl _ | refine Ext.trans ?_ (ext_grow _ _))))))); exact wpQuiet_nil rfl
    refine Dm.wpE_take (i := 4) (listed' := (Dm.bits 10 31)) (by kernel_rfl) (by kernel_rfl) rfl (fun _ _ _ _ h => h) ?_; apply Exists.intro; refine And.intro (fun x => ?_) ?_
    · go_big_quiet_step ((first | (go_at_call 22; with_reducible exact Calls.quietE (CA.out _ (by repeat (first | assumption | exact Ext.refl _ | refine Ext.trans ?_ (ext_grow _ _))))) | (go_at_call 22; with_reducible exact Calls.quietE (CB'.out _ (by repeat (first | assumption | exact Ext.refl _ | refine Ext.trans ?_ (ext_grow _ _))))))); exact wpQuiet_nil rfl
    refine Dm.wpE_take (i := 5) (listed' := (Dm.bits 10 63)) (by kernel_rfl) (by kernel_rfl) rfl (fun _ _ _ _ h => h) ?_; apply Exists.intro; refine And.intro (fun x => ?_) ?_
    · go_big_quiet_step ((first | (go_at_call 22; with_reducible exact Calls.quietE (CA.out _ (by repeat (first | assumption | exact Ext.refl _ | refine Ext.trans ?_ (ext_grow _ _))))) | (go_at_call 22; with_reducible exact Calls.quietE (CB'.out _ (by repeat (first | assumption | exact Ext.refl _ | refine Ext.trans ?_ (ext_grow _ _))))))); exact wpQuiet_nil rfl
    refine Dm.wpE_take (i := 6) (listed' := (Dm.bits 10 127)) (by kernel_rfl) (by kernel_rfl) rfl (fun _ _ _ _ h => h) ?_; apply Exists.intro; refine And.intro (fun x => ?_) ?_
    · go_big_quiet_step ((first | (go_at_call 22; with_reducible exact Calls.quietE (CA.out _ (by repeat (first | assumption | exact Ext.refl _ | refine Ext.trans ?_ (ext_grow _ _))))) | (go_at_call 22; with_reducible exact Calls.quietE (CB'.out _ (by repeat (first | assumption | exact Ext.refl _ | refine Ext.trans ?_ (ext_grow _ _))))))); exact wpQuiet_nil rfl
    refine Dm.wpE_take (i := 7) (listed' := (Dm.bits 10 255)) (by kernel_rfl) (by kernel_rfl) rfl (fun _ _ _ _ h => h) ?_; apply Exists.intro; refine And.intro (fun x => ?_) ?_
    · go_big_quiet_step ((first | (go_at_call 22; with_reducible exact Calls.quietE (CA.out _ (by repeat (first | assumption | exact Ext.refl _ | refine Ext.trans ?_ (ext_grow _ _))))) | (go_at_call 22; with_reducible exact Calls.quietE (CB'.out _ (by repeat (first | assumption | exact Ext.refl _ | refine Ext.trans ?_ (ext_grow _ _))))))); exact wpQuiet_nil rfl
    refine Dm.wpE_take (i := 8) (listed' := (Dm.bits 10 511)) (by kernel_rfl) (by kernel_rfl) rfl (fun _ _ _ _ h => h) ?_; apply Exists.intro; refine And.intro (fun x => ?_) ?_
    · go_big_quiet_step ((first | (go_at_call 22; with_reducible exact Calls.quietE (CA.out _ (by repeat (first | assumption | exact Ext.refl _ | refine Ext.trans ?_ (ext_grow _ _))))) | (go_at_call 22; with_reducible exact Calls.quietE (CB'.out _ (by repeat (first | assumption | exact Ext.refl _ | refine Ext.trans ?_ (ext_grow _ _))))))); exact wpQuiet_nil rfl
    refine Dm.wpE_take (i := 9) (listed' := (Dm.bits 10 1023)) (by kernel_rfl) (by kernel_rfl) rfl (fun _ _ _ _ h => h) ?_; apply Exists.intro; refine And.intro (fun x => ?_) ?_
    · go_big_quiet_step ((first | (go_at_call 22; with_reducible exact Calls.quietE (CA.out _ (by repeat (first | assumption | exact Ext.refl _ | refine Ext.trans ?_ (ext_grow _ _))))) | (go_at_call 22; with_reducible exact Calls.quietE (CB'.out _ (by repeat (first | assumption | exact Ext.refl _ | refine Ext.trans ?_ (ext_grow _ _))))))); exact wpQuiet_nil rfl
    refine Dm.wpE_done (by kernel_rfl) (Ext.refl w7) (fun w1a hx1a => ?_)
    have hX1a := Ext.trans (Ext.refl w7) hx1a
    go_wp2_with fail
    go_meet
    case rel => exact ⟨by rw [hS.out], hX1a⟩
  case rest =>
    obtain ⟨rfl, h8⟩ := hcut
    generalize wc = w8 at *
    replace hE := hE.trans h8
    replace t1 := t1.ext h8
    replace b1 := b1.ext h8
    replace t2 := t2.ext h8
    replace b2 := b2.ext h8
    clear h8
    have hSs := jfour_sz hS.out
    replace CGa := CGa.out S hS.out
    replace CGb := CGb.out S hS.out
    have hq : (((ahead.size : Int) + (Pa.size : Int)) + (Pb.size : Int) == (S.size : Int) - (behind.size : Int)) = true := by rw [beq_iff_eq]; omega
    have hSl : S.size ≤ 281474976710656 := by omega
    replace hSs := Lib.hid hSs
    replace CGa := Lib.hid CGa
    replace CGb := Lib.hid CGb
    clear hS
    go_wp2_with fail
    refine (CGa.out _ hE).mono ?_; rintro e w9 ⟨⟨v3, R3, rfl, t3, m3⟩, h9⟩
    obtain ⟨q3, c3, rfl, _, _⟩ := t3.shape
    replace m3 := Lib.hid m3
    replace hE := hE.trans h9
    replace t1 := t1.ext h9
    replace b1 := b1.ext h9
    replace t2 := t2.ext h9
    replace b2 := b2.ext h9
    clear h9 CGa
    have b3 := XBox.new w9 sa Da n1 (.slice q3 R3.length c3) 27
    have ee := (Ext.refl w9).alloc (.cells #[.string sa, .int .u64 (Da 0 : Nat), .int .u64 (Da 1 : Nat), .int .u64 (Da 2 : Nat), .int .u64 (Da 3 : Nat), .int .i64 n1.1, .int .i64 n1.2.1, .int .i64 n1.2.2, .slice q3 R3.length c3] 27)
    replace hE := hE.trans ee
    replace t1 := t1.ext ee
    replace b1 := b1.ext ee
    replace t2 := t2.ext ee
    replace b2 := b2.ext ee
    replace t3 := t3.ext ee
    clear ee
    go_wp2_with fail
    generalize hw : w9.alloc (.cells #[.string sa, .int .u64 (Da 0 : Nat), .int .u64 (Da 1 : Nat), .int .u64 (Da 2 : Nat), .int .u64 (Da 3 : Nat), .int .i64 n1.1, .int .i64 n1.2.1, .int .i64 n1.2.2, .slice q3 R3.length c3] 27) = w10 at *
    generalize hb : w9.heap.size = l3 at *
    clear hw hb
    refine (CGb.out _ hE).mono ?_; rintro e w11 ⟨⟨v4, R4, rfl, t4, m4⟩, h11⟩
    obtain ⟨q4, c4, rfl, _, _⟩ := t4.shape
    replace m4 := Lib.hid m4
    replace hE := hE.trans h11
    replace t1 := t1.ext h11
    replace b1 := b1.ext h11
    replace t2 := t2.ext h11
    replace b2 := b2.ext h11
    replace t3 := t3.ext h11
    replace b3 := b3.ext h11
    clear h11 CGb
    have b4 := XBox.new w11 sb Db n2 (.slice q4 R4.length c4) 27
    have ee := (Ext.refl w11).alloc (.cells #[.string sb, .int .u64 (Db 0 : Nat), .int .u64 (Db 1 : Nat), .int .u64 (Db 2 : Nat), .int .u64 (Db 3 : Nat), .int .i64 n2.1, .int .i64 n2.2.1, .int .i64 n2.2.2, .slice q4 R4.length c4] 27)
    replace hE := hE.trans ee
    replace t1 := t1.ext ee
    replace b1 := b1.ext ee
    replace t2 := t2.ext ee
    replace b2 := b2.ext ee
    replace t3 := t3.ext ee
    replace b3 := b3.ext ee
    replace t4 := t4.ext ee
    clear ee
    obtain ⟨xl, x0, x1, x2, x3, x4, x5, x6, x7, x8⟩ := b1.cells
    go_wp2_with fail
    generalize hw : w11.alloc (.cells #[.string sb, .int .u64 (Db 0 : Nat), .int .u64 (Db 1 : Nat), .int .u64 (Db 2 : Nat), .int .u64 (Db 3 : Nat), .int .i64 n2.1, .int .i64 n2.2.1, .int .i64 n2.2.2, .slice q4 R4.length c4] 27) = w12 at *
    generalize hb : w11.heap.size = l4 at *
    clear hw hb
    clear xl x0 x1 x2 x3 x4 x5 x6 x7 x8
    refine (CTa.out _ _ _ hE t1 m1.out).mono ?_; rintro e W0 ⟨rfl, h13⟩
    replace hE := hE.trans h13
    replace t1 := t1.ext h13
    replace b1 := b1.ext h13
    replace t2 := t2.ext h13
    replace b2 := b2.ext h13
    replace t3 := t3.ext h13
    replace b3 := b3.ext h13
    replace t4 := t4.ext h13
    replace b4 := b4.ext h13
    clear h13
    go_wp2
    go_loopw [19, 20, 22] (fun v f' i' wr => ∃ (f i : Nat) (xs : List ByteArray), f' = .int .i64 f ∧ i' = .int .i64 i ∧ i ≤ Ta.size + 1 ∧ f ≤ i ∧ xs.length ≤ i ∧ Ext W0 wr ∧ wr.ownsRow W0.heap.size 9 1 v xs.length (xs.map .string) ∧ Hid (CS 32 Ta.data.toList (bytesOf xs) f i)) (fun _ _ i' _ => Ta.size + 1 - (intOf i').toNat)
    case atStart => exact ⟨0, 0, [], rfl, rfl, by omega, by omega, by simp, Ext.refl _, World.ownsRow_nil _ _ _ _, CS.start _ _⟩
    case round =>
      obtain ⟨f, i, xs, rfl, rfl, hi, hf, hxl, hb, ho, HP⟩ := hrel
      by_cases hle : i ≤ Ta.size
      · have hxd : (Ta.extract f i).data.toList = (Ta.data.toList.drop f).take (i - f) := Lib.extract_data Ta f i
        have hnext : (i = Ta.data.toList.length ∨ (i < Ta.data.toList.length ∧ bAt Ta.data.toList i = (32 : UInt8).toNat)) → Hid (CS 32 Ta.data.toList (bytesOf (xs ++ [Ta.extract f i])) (i + 1) (i + 1)) := fun h => by
          have := HP.out.next h
          rw [← hxd, ← bytesOf_snoc] at this
          exact this
        have ho4 := Ext.row ho ((Ext.refl wr).alloc (.cells #[.string (Ta.extract f i)] 9))
        have hb4 := hb.trans ((Ext.refl wr).alloc (.cells #[.string (Ta.extract f i)] 9))
        have hl4 := Sl.lit wr 9 1 1 #[.string (Ta.extract f i)] rfl (by simp [maxLen])
        clear hxd
        by_cases hlt : i < Ta.size
        · obtain ⟨b, hbt⟩ : ∃ b : Int, ((Ta[i]'hlt).toNat : Int) = b := ⟨_, rfl⟩
          by_cases hbk : b = 32
          · have hst := hnext (Or.inr ⟨hlt, by rw [← sAt hlt]; have : (32 : UInt8).toNat = 32 := rfl; omega⟩)
            have hbn : (b == 32) = true := by rw [beq_iff_eq]; exact hbk
            have hin : ((i : Int) == (Ta.size : Int)) = false := by rw [beq_eq_false_iff_ne]; omega
            clear hnext ho hbk
            go_wp2_with (at_builtin; refine wpList_appE rfl _ _ Tryz.slStr rfl hb4 rfl ho4 rfl hl4 (strs_one [Ta.extract f i]) (by omega) ?_; intro v5 w5 ho5 hb5 _)
            go_roundw
            case rel => exact ⟨i + 1, i + 1, xs ++ [Ta.extract f i], by go_num, by go_num, by omega, by omega, by simp; omega, hb5, by rw [List.length_append, List.map_append]; exact ho5, hst⟩
            case measure => simp [intOf]; omega
          · have hst := Lib.hid (HP.out.on hlt (by rw [← sAt hlt]; have : (32 : UInt8).toNat = 32 := rfl; omega))
            have hbn : (b == 32) = false := by rw [beq_eq_false_iff_ne]; exact hbk
            have hin : ((i : Int) == (Ta.size : Int)) = false := by rw [beq_eq_false_iff_ne]; omega
            clear hnext ho4 hb4 hl4 hbk
            go_wp2
            go_roundw
            case rel => exact ⟨f, i + 1, xs, rfl, by go_num, by omega, by omega, by omega, hb, ho, hst⟩
            case measure => simp [intOf]; omega
        · have hst := hnext (Or.inl (show i = Ta.size by omega))
          have hin : ((i : Int) == (Ta.size : Int)) = true := by rw [beq_iff_eq]; omega
          clear hnext ho
          go_wp2_with (at_builtin; refine wpList_appE rfl _ _ Tryz.slStr rfl hb4 rfl ho4 rfl hl4 (strs_one [Ta.extract f i]) (by omega) ?_; intro v5 w5 ho5 hb5 _)
          go_roundw
          case rel => exact ⟨i + 1, i + 1, xs ++ [Ta.extract f i], by go_num, by go_num, by omega, by omega, by simp; omega, hb5, by rw [List.length_append, List.map_append]; exact ho5, hst⟩
          case measure => simp [intOf]; omega
      · have hz := HP.out.done (show Ta.size < i by omega)
        have hxs := Strs.of_row ho rfl
        obtain ⟨qs, cs, rfl, _, _⟩ := hxs.shape
        replace hE := hE.trans hb
        replace t1 := t1.ext hb
        replace b1 := b1.ext hb
        replace t2 := t2.ext hb
        replace b2 := b2.ext hb
        replace t3 := t3.ext hb
        replace b3 := b3.ext hb
        replace t4 := t4.ext hb
        replace b4 := b4.ext hb
        have hx6 : (xs.length : Int) = 6 := by rw [h6.out xs hz]; rfl
        have CR := CPr.out xs _ _ hE hxs hz
        replace CR := Lib.hid CR
        clear hb ho HP hz hxs hxl CPr h6
        go_wp2_with fail
        refine CR.out.mono ?_; rintro e w15 ⟨⟨v5, R5, rfl, t5, m5⟩, h15⟩
        obtain ⟨q5, c5, rfl, _, _⟩ := t5.shape
        replace m5 := Lib.hid m5
        replace hE := hE.trans h15
        replace t1 := t1.ext h15
        replace b1 := b1.ext h15
        replace t2 := t2.ext h15
        replace b2 := b2.ext h15
        replace t3 := t3.ext h15
        replace b3 := b3.ext h15
        replace t4 := t4.ext h15
        replace b4 := b4.ext h15
        clear h15 CR
        have b5 := XBox.new w15 sa Da n1 (.slice q5 R5.length c5) 27
        have ee := (Ext.refl w15).alloc (.cells #[.string sa, .int .u64 (Da 0 : Nat), .int .u64 (Da 1 : Nat), .int .u64 (Da 2 : Nat), .int .u64 (Da 3 : Nat), .int .i64 n1.1, .int .i64 n1.2.1, .int .i64 n1.2.2, .slice q5 R5.length c5] 27)
        replace hE := hE.trans ee
        replace t1 := t1.ext ee
        replace b1 := b1.ext ee
        replace t2 := t2.ext ee
        replace b2 := b2.ext ee
        replace t3 := t3.ext ee
        replace b3 := b3.ext ee
        replace t4 := t4.ext ee
        replace b4 := b4.ext ee
        replace t5 := t5.ext ee
        clear ee
        obtain ⟨xl, x0, x1, x2, x3, x4, x5, x6, x7, x8⟩ := b1.cells
        obtain ⟨yl, y0, y1, y2, y3, y4, y5, y6, y7, y8⟩ := b2.cells
        go_wp2_with fail
        generalize hw : w15.alloc (.cells #[.string sa, .int .u64 (Da 0 : Nat), .int .u64 (Da 1 : Nat), .int .u64 (Da 2 : Nat), .int .u64 (Da 3 : Nat), .int .i64 n1.1, .int .i64 n1.2.1, .int .i64 n1.2.2, .slice q5 R5.length c5] 27) = w16 at *
        generalize hb : w15.heap.size = l5 at *
        clear hw hb
        clear xl x0 x1 x2 x3 x4 x5 x6 x7 x8
        clear yl y0 y1 y2 y3 y4 y5 y6 y7 y8
        refine (CSab.out _ _ _ _ _ t1 m1.out t2 m2.out).mono ?_; rintro e w17 ⟨rfl, h17⟩
        replace hE := hE.trans h17
        replace t1 := t1.ext h17
        replace b1 := b1.ext h17
        replace t2 := t2.ext h17
        replace b2 := b2.ext h17
        replace t3 := t3.ext h17
        replace b3 := b3.ext h17
        replace t4 := t4.ext h17
        replace b4 := b4.ext h17
        replace t5 := t5.ext h17
        replace b5 := b5.ext h17
        clear h17
        have C1 := fun U (h : Ext w17 U) => CSaa.out _ _ _ _ U (t3.ext h) m3.out (t1.ext h) m1.out
        have C2 := fun U (h : Ext w17 U) => CSbb.out _ _ _ _ U (t4.ext h) m4.out (t2.ext h) m2.out
        have C3 := fun U (h : Ext w17 U) => CSaa.out _ _ _ _ U (t5.ext h) m5.out (t1.ext h) m1.out
        have C4 := fun U (h : Ext w17 U) => CPa.out _ _ U (hE.trans h) (t1.ext h) m1.out
        have C5 := fun U (h : Ext w17 U) => CPb.out _ _ U (hE.trans h) (t2.ext h) m2.out
        have C6 := fun U (h : Ext w17 U) => CTa.out _ _ U (hE.trans h) (t1.ext h) m1.out
        have C7 := fun U (h : Ext w17 U) => CTb.out _ _ U (hE.trans h) (t2.ext h) m2.out
        replace C1 := Lib.hid C1
        replace C2 := Lib.hid C2
        replace C3 := Lib.hid C3
        replace C4 := Lib.hid C4
        replace C5 := Lib.hid C5
        replace C6 := Lib.hid C6
        replace C7 := Lib.hid C7
        obtain ⟨xl, x0, x1, x2, x3, x4, x5, x6, x7, x8⟩ := b1.cells
        obtain ⟨yl, y0, y1, y2, y3, y4, y5, y6, y7, y8⟩ := b2.cells
        obtain ⟨ul, u0, u1, u2, u3, u4, u5, u6, u7, u8⟩ := b3.cells
        obtain ⟨rl, r0, r1, r2, r3, r4, r5, r6, r7, r8⟩ := b4.cells
        obtain ⟨kl, k0, k1, k2, k3, k4, k5, k6, k7, k8⟩ := b5.cells
        clear CSaa CSbb CSab CPa CPb CTa CTb t1 t2 t3 t4 t5 b1 b2 b3 b4 b5 m1 m2 m3 m4 m5 hi hf hle
        go_wp2_with fail
        try simp only [Act.put, List.setIfInBounds_toArray, List.set_cons_succ, List.set_cons_zero]
        refine Dm.wp_region_ext 58 (Dm.bits 58 0) (Ext.refl w17) (by kernel_rfl) (by kernel_rfl) (by kernel_rfl) ?_
        refine Dm.wpE_take (i := 0) (listed' := (Dm.bits 58 1)) (by kernel_rfl) (by kernel_rfl) rfl (fun _ _ _ _ h => h) ?_; apply Exists.intro; refine And.intro (fun x => ?_) ?_
        · go_big_quiet_step ((first | (go_at_call 21; with_reducible exact Calls.quietE (C1.out _ (by repeat (first | assumption | exact Ext.refl _ | refine Ext.trans ?_ (ext_grow _ _))))) | (go_at_call 21; with_reducible exact Calls.quietE (C2.out _ (by repeat (first | assumption | exact Ext.refl _ | refine Ext.trans ?_ (ext_grow _ _))))) | (go_at_call 21; with_reducible exact Calls.quietE (C3.out _ (by repeat (first | assumption | exact Ext.refl _ | refine Ext.trans ?_ (ext_grow _ _))))) | (go_at_call 22; with_reducible exact Calls.quietE (C4.out _ (by repeat (first | assumption | exact Ext.refl _ | refine Ext.trans ?_ (ext_grow _ _))))) | (go_at_call 22; with_reducible exact Calls.quietE (C5.out _ (by repeat (first | assumption | exact Ext.refl _ | refine Ext.trans ?_ (ext_grow _ _))))) | (go_at_call 24; with_reducible exact Calls.quietE (C6.out _ (by repeat (first | assumption | exact Ext.refl _ | refine Ext.trans ?_ (ext_grow _ _))))) | (go_at_call 24; with_reducible exact Calls.quietE (C7.out _ (by repeat (first | assumption | exact Ext.refl _ | refine Ext.trans ?_ (ext_grow _ _))))))); exact wpQuiet_nil rfl
        refine Dm.wpE_take (i := 1) (listed' := (Dm.bits 58 3)) (by kernel_rfl) (by kernel_rfl) rfl (fun _ _ _ _ h => h) ?_; apply Exists.intro; refine And.intro (fun x => ?_) ?_
        · go_big_quiet_step ((first | (go_at_call 21; with_reducible exact Calls.quietE (C1.out _ (by repeat (first | assumption | exact Ext.refl _ | refine Ext.trans ?_ (ext_grow _ _))))) | (go_at_call 21; with_reducible exact Calls.quietE (C2.out _ (by repeat (first | assumption | exact Ext.refl _ | refine Ext.trans ?_ (ext_grow _ _))))) | (go_at_call 21; with_reducible exact Calls.quietE (C3.out _ (by repeat (first | assumption | exact Ext.refl _ | refine Ext.trans ?_ (ext_grow _ _))))) | (go_at_call 22; with_reducible exact Calls.quietE (C4.out _ (by repeat (first | assumption | exact Ext.refl _ | refine Ext.trans ?_ (ext_grow _ _))))) | (go_at_call 22; with_reducible exact Calls.quietE (C5.out _ (by repeat (first | assumption | exact Ext.refl _ | refine Ext.trans ?_ (ext_grow _ _))))) | (go_at_call 24; with_reducible exact Calls.quietE (C6.out _ (by repeat (first | assumption | exact Ext.refl _ | refine Ext.trans ?_ (ext_grow _ _))))) | (go_at_call 24; with_reducible exact Calls.quietE (C7.out _ (by repeat (first | assumption | exact Ext.refl _ | refine Ext.trans ?_ (ext_grow _ _))))))); exact wpQuiet_nil rfl
        refine Dm.wpE_take (i := 2) (listed' := (Dm.bits 58 7)) (by kernel_rfl) (by kernel_rfl) rfl (fun _ _ _ _ h => h) ?_; apply Exists.intro; refine And.intro (fun x => ?_) ?_
        · go_big_quiet_step ((first | (go_at_call 21; with_reducible exact Calls.quietE (C1.out _ (by repeat (first | assumption | exact Ext.refl _ | refine Ext.trans ?_ (ext_grow _ _))))) | (go_at_call 21; with_reducible exact Calls.quietE (C2.out _ (by repeat (first | assumption | exact Ext.refl _ | refine Ext.trans ?_ (ext_grow _ _))))) | (go_at_call 21; with_reducible exact Calls.quietE (C3.out _ (by repeat (first | assumption | exact Ext.refl _ | refine Ext.trans ?_ (ext_grow _ _))))) | (go_at_call 22; with_reducible exact Calls.quietE (C4.out _ (by repeat (first | assumption | exact Ext.refl _ | refine Ext.trans ?_ (ext_grow _ _))))) | (go_at_call 22; with_reducible exact Calls.quietE (C5.out _ (by repeat (first | assumption | exact Ext.refl _ | refine Ext.trans ?_ (ext_grow _ _))))) | (go_at_call 24; with_reducible exact Calls.quietE (C6.out _ (by repeat (first | assumption | exact Ext.refl _ | refine Ext.trans ?_ (ext_grow _ _))))) | (go_at_call 24; with_reducible exact Calls.quietE (C7.out _ (by repeat (first | assumption | exact Ext.refl _ | refine Ext.trans ?_ (ext_grow _ _))))))); exact wpQuiet_nil rfl
        refine Dm.wpE_take (i := 3) (listed' := (Dm.bits 58 15)) (by kernel_rfl) (by kernel_rfl) rfl (fun _ _ _ _ h => h) ?_; apply Exists.intro; refine And.intro (fun x => ?_) ?_
        · go_big_quiet_step ((first | (go_at_call 21; with_reducible exact Calls.quietE (C1.out _ (by repeat (first | assumption | exact Ext.refl _ | refine Ext.trans ?_ (ext_grow _ _))))) | (go_at_call 21; with_reducible exact Calls.quietE (C2.out _ (by repeat (first | assumption | exact Ext.refl _ | refine Ext.trans ?_ (ext_grow _ _))))) | (go_at_call 21; with_reducible exact Calls.quietE (C3.out _ (by repeat (first | assumption | exact Ext.refl _ | refine Ext.trans ?_ (ext_grow _ _))))) | (go_at_call 22; with_reducible exact Calls.quietE (C4.out _ (by repeat (first | assumption | exact Ext.refl _ | refine Ext.trans ?_ (ext_grow _ _))))) | (go_at_call 22; with_reducible exact Calls.quietE (C5.out _ (by repeat (first | assumption | exact Ext.refl _ | refine Ext.trans ?_ (ext_grow _ _))))) | (go_at_call 24; with_reducible exact Calls.quietE (C6.out _ (by repeat (first | assumption | exact Ext.refl _ | refine Ext.trans ?_ (ext_grow _ _))))) | (go_at_call 24; with_reducible exact Calls.quietE (C7.out _ (by repeat (first | assumption | exact Ext.refl _ | refine Ext.trans ?_ (ext_grow _ _))))))); exact wpQuiet_nil rfl
        refine Dm.wpE_take (i := 4) (listed' := (Dm.bits 58 31)) (by kernel_rfl) (by kernel_rfl) rfl (fun _ _ _ _ h => h) ?_; apply Exists.intro; refine And.intro (fun x => ?_) ?_
        · go_big_quiet_step ((first | (go_at_call 21; with_reducible exact Calls.quietE (C1.out _ (by repeat (first | assumption | exact Ext.refl _ | refine Ext.trans ?_ (ext_grow _ _))))) | (go_at_call 21; with_reducible exact Calls.quietE (C2.out _ (by repeat (first | assumption | exact Ext.refl _ | refine Ext.trans ?_ (ext_grow _ _))))) | (go_at_call 21; with_reducible exact Calls.quietE (C3.out _ (by repeat (first | assumption | exact Ext.refl _ | refine Ext.trans ?_ (ext_grow _ _))))) | (go_at_call 22; with_reducible exact Calls.quietE (C4.out _ (by repeat (first | assumption | exact Ext.refl _ | refine Ext.trans ?_ (ext_grow _ _))))) | (go_at_call 22; with_reducible exact Calls.quietE (C5.out _ (by repeat (first | assumption | exact Ext.refl _ | refine Ext.trans ?_ (ext_grow _ _))))) | (go_at_call 24; with_reducible exact Calls.quietE (C6.out _ (by repeat (first | assumption | exact Ext.refl _ | refine Ext.trans ?_ (ext_grow _ _))))) | (go_at_call 24; with_reducible exact Calls.quietE (C7.out _ (by repeat (first | assumption | exact Ext.refl _ | refine Ext.trans ?_ (ext_grow _ _))))))); exact wpQuiet_nil rfl
        refine Dm.wpE_take (i := 5) (listed' := (Dm.bits 58 63)) (by kernel_rfl) (by kernel_rfl) rfl (fun _ _ _ _ h => h) ?_; apply Exists.intro; refine And.intro (fun x => ?_) ?_
        · go_big_quiet_step ((first | (go_at_call 21; with_reducible exact Calls.quietE (C1.out _ (by repeat (first | assumption | exact Ext.refl _ | refine Ext.trans ?_ (ext_grow _ _))))) | (go_at_call 21; with_reducible exact Calls.quietE (C2.out _ (by repeat (first | assumption | exact Ext.refl _ | refine Ext.trans ?_ (ext_grow _ _))))) | (go_at_call 21; with_reducible exact Calls.quietE (C3.out _ (by repeat (first | assumption | exact Ext.refl _ | refine Ext.trans ?_ (ext_grow _ _))))) | (go_at_call 22; with_reducible exact Calls.quietE (C4.out _ (by repeat (first | assumption | exact Ext.refl _ | refine Ext.trans ?_ (ext_grow _ _))))) | (go_at_call 22; with_reducible exact Calls.quietE (C5.out _ (by repeat (first | assumption | exact Ext.refl _ | refine Ext.trans ?_ (ext_grow _ _))))) | (go_at_call 24; with_reducible exact Calls.quietE (C6.out _ (by repeat (first | assumption | exact Ext.refl _ | refine Ext.trans ?_ (ext_grow _ _))))) | (go_at_call 24; with_reducible exact Calls.quietE (C7.out _ (by repeat (first | assumption | exact Ext.refl _ | refine Ext.trans ?_ (ext_grow _ _))))))); exact wpQuiet_nil rfl
        refine Dm.wpE_take (i := 6) (listed' := (Dm.bits 58 127)) (by kernel_rfl) (by kernel_rfl) rfl (fun _ _ _ _ h => h) ?_; apply Exists.intro; refine And.intro (fun x => ?_) ?_
        · go_big_quiet_step ((first | (go_at_call 21; with_reducible exact Calls.quietE (C1.out _ (by repeat (first | assumption | exact Ext.refl _ | refine Ext.trans ?_ (ext_grow _ _))))) | (go_at_call 21; with_reducible exact Calls.quietE (C2.out _ (by repeat (first | assumption | exact Ext.refl _ | refine Ext.trans ?_ (ext_grow _ _))))) | (go_at_call 21; with_reducible exact Calls.quietE (C3.out _ (by repeat (first | assumption | exact Ext.refl _ | refine Ext.trans ?_ (ext_grow _ _))))) | (go_at_call 22; with_reducible exact Calls.quietE (C4.out _ (by repeat (first | assumption | exact Ext.refl _ | refine Ext.trans ?_ (ext_grow _ _))))) | (go_at_call 22; with_reducible exact Calls.quietE (C5.out _ (by repeat (first | assumption | exact Ext.refl _ | refine Ext.trans ?_ (ext_grow _ _))))) | (go_at_call 24; with_reducible exact Calls.quietE (C6.out _ (by repeat (first | assumption | exact Ext.refl _ | refine Ext.trans ?_ (ext_grow _ _))))) | (go_at_call 24; with_reducible exact Calls.quietE (C7.out _ (by repeat (first | assumption | exact Ext.refl _ | refine Ext.trans ?_ (ext_grow _ _))))))); exact wpQuiet_nil rfl
        refine Dm.wpE_take (i := 7) (listed' := (Dm.bits 58 255)) (by kernel_rfl) (by kernel_rfl) rfl (fun _ _ _ _ h => h) ?_; apply Exists.intro; refine And.intro (fun x => ?_) ?_
        · go_big_quiet_step ((first | (go_at_call 21; with_reducible exact Calls.quietE (C1.out _ (by repeat (first | assumption | exact Ext.refl _ | refine Ext.trans ?_ (ext_grow _ _))))) | (go_at_call 21; with_reducible exact Calls.quietE (C2.out _ (by repeat (first | assumption | exact Ext.refl _ | refine Ext.trans ?_ (ext_grow _ _))))) | (go_at_call 21; with_reducible exact Calls.quietE (C3.out _ (by repeat (first | assumption | exact Ext.refl _ | refine Ext.trans ?_ (ext_grow _ _))))) | (go_at_call 22; with_reducible exact Calls.quietE (C4.out _ (by repeat (first | assumption | exact Ext.refl _ | refine Ext.trans ?_ (ext_grow _ _))))) | (go_at_call 22; with_reducible exact Calls.quietE (C5.out _ (by repeat (first | assumption | exact Ext.refl _ | refine Ext.trans ?_ (ext_grow _ _))))) | (go_at_call 24; with_reducible exact Calls.quietE (C6.out _ (by repeat (first | assumption | exact Ext.refl _ | refine Ext.trans ?_ (ext_grow _ _))))) | (go_at_call 24; with_reducible exact Calls.quietE (C7.out _ (by repeat (first | assumption | exact Ext.refl _ | refine Ext.trans ?_ (ext_grow _ _))))))); exact wpQuiet_nil rfl
        refine Dm.wpE_take (i := 8) (listed' := (Dm.bits 58 511)) (by kernel_rfl) (by kernel_rfl) rfl (fun _ _ _ _ h => h) ?_; apply Exists.intro; refine And.intro (fun x => ?_) ?_
        · go_big_quiet_step ((first | (go_at_call 21; with_reducible exact Calls.quietE (C1.out _ (by repeat (first | assumption | exact Ext.refl _ | refine Ext.trans ?_ (ext_grow _ _))))) | (go_at_call 21; with_reducible exact Calls.quietE (C2.out _ (by repeat (first | assumption | exact Ext.refl _ | refine Ext.trans ?_ (ext_grow _ _))))) | (go_at_call 21; with_reducible exact Calls.quietE (C3.out _ (by repeat (first | assumption | exact Ext.refl _ | refine Ext.trans ?_ (ext_grow _ _))))) | (go_at_call 22; with_reducible exact Calls.quietE (C4.out _ (by repeat (first | assumption | exact Ext.refl _ | refine Ext.trans ?_ (ext_grow _ _))))) | (go_at_call 22; with_reducible exact Calls.quietE (C5.out _ (by repeat (first | assumption | exact Ext.refl _ | refine Ext.trans ?_ (ext_grow _ _))))) | (go_at_call 24; with_reducible exact Calls.quietE (C6.out _ (by repeat (first | assumption | exact Ext.refl _ | refine Ext.trans ?_ (ext_grow _ _))))) | (go_at_call 24; with_reducible exact Calls.quietE (C7.out _ (by repeat (first | assumption | exact Ext.refl _ | refine Ext.trans ?_ (ext_grow _ _))))))); exact wpQuiet_nil rfl
        refine Dm.wpE_take (i := 9) (listed' := (Dm.bits 58 1023)) (by kernel_rfl) (by kernel_rfl) rfl (fun _ _ _ _ h => h) ?_; apply Exists.intro; refine And.intro (fun x => ?_) ?_
        · go_big_quiet_step ((first | (go_at_call 21; with_reducible exact Calls.quietE (C1.out _ (by repeat (first | assumption | exact Ext.refl _ | refine Ext.trans ?_ (ext_grow _ _))))) | (go_at_call 21; with_reducible exact Calls.quietE (C2.out _ (by repeat (first | assumption | exact Ext.refl _ | refine Ext.trans ?_ (ext_grow _ _))))) | (go_at_call 21; with_reducible exact Calls.quietE (C3.out _ (by repeat (first | assumption | exact Ext.refl _ | refine Ext.trans ?_ (ext_grow _ _))))) | (go_at_call 22; with_reducible exact Calls.quietE (C4.out _ (by repeat (first | assumption | exact Ext.refl _ | refine Ext.trans ?_ (ext_grow _ _))))) | (go_at_call 22; with_reducible exact Calls.quietE (C5.out _ (by repeat (first | assumption | exact Ext.refl _ | refine Ext.trans ?_ (ext_grow _ _))))) | (go_at_call 24; with_reducible exact Calls.quietE (C6.out _ (by repeat (first | assumption | exact Ext.refl _ | refine Ext.trans ?_ (ext_grow _ _))))) | (go_at_call 24; with_reducible exact Calls.quietE (C7.out _ (by repeat (first | assumption | exact Ext.refl _ | refine Ext.trans ?_ (ext_grow _ _))))))); exact wpQuiet_nil rfl
        refine Dm.wpE_take (i := 10) (listed' := (Dm.bits 58 2047)) (by kernel_rfl) (by kernel_rfl) rfl (fun _ _ _ _ h => h) ?_; apply Exists.intro; refine And.intro (fun x => ?_) ?_
        · go_big_quiet_step ((first | (go_at_call 21; with_reducible exact Calls.quietE (C1.out _ (by repeat (first | assumption | exact Ext.refl _ | refine Ext.trans ?_ (ext_grow _ _))))) | (go_at_call 21; with_reducible exact Calls.quietE (C2.out _ (by repeat (first | assumption | exact Ext.refl _ | refine Ext.trans ?_ (ext_grow _ _))))) | (go_at_call 21; with_reducible exact Calls.quietE (C3.out _ (by repeat (first | assumption | exact Ext.refl _ | refine Ext.trans ?_ (ext_grow _ _))))) | (go_at_call 22; with_reducible exact Calls.quietE (C4.out _ (by repeat (first | assumption | exact Ext.refl _ | refine Ext.trans ?_ (ext_grow _ _))))) | (go_at_call 22; with_reducible exact Calls.quietE (C5.out _ (by repeat (first | assumption | exact Ext.refl _ | refine Ext.trans ?_ (ext_grow _ _))))) | (go_at_call 24; with_reducible exact Calls.quietE (C6.out _ (by repeat (first | assumption | exact Ext.refl _ | refine Ext.trans ?_ (ext_grow _ _))))) | (go_at_call 24; with_reducible exact Calls.quietE (C7.out _ (by repeat (first | assumption | exact Ext.refl _ | refine Ext.trans ?_ (ext_grow _ _))))))); exact wpQuiet_nil rfl
        refine Dm.wpE_take (i := 11) (listed' := (Dm.bits 58 4095)) (by kernel_rfl) (by kernel_rfl) rfl (fun _ _ _ _ h => h) ?_; apply Exists.intro; refine And.intro (fun x => ?_) ?_
        · go_big_quiet_step ((first | (go_at_call 21; with_reducible exact Calls.quietE (C1.out _ (by repeat (first | assumption | exact Ext.refl _ | refine Ext.trans ?_ (ext_grow _ _))))) | (go_at_call 21; with_reducible exact Calls.quietE (C2.out _ (by repeat (first | assumption | exact Ext.refl _ | refine Ext.trans ?_ (ext_grow _ _))))) | (go_at_call 21; with_reducible exact Calls.quietE (C3.out _ (by repeat (first | assumption | exact Ext.refl _ | refine Ext.trans ?_ (ext_grow _ _))))) | (go_at_call 22; with_reducible exact Calls.quietE (C4.out _ (by repeat (first | assumption | exact Ext.refl _ | refine Ext.trans ?_ (ext_grow _ _))))) | (go_at_call 22; with_reducible exact Calls.quietE (C5.out _ (by repeat (first | assumption | exact Ext.refl _ | refine Ext.trans ?_ (ext_grow _ _))))) | (go_at_call 24; with_reducible exact Calls.quietE (C6.out _ (by repeat (first | assumption | exact Ext.refl _ | refine Ext.trans ?_ (ext_grow _ _))))) | (go_at_call 24; with_reducible exact Calls.quietE (C7.out _ (by repeat (first | assumption | exact Ext.refl _ | refine Ext.trans ?_ (ext_grow _ _))))))); exact wpQuiet_nil rfl
        refine Dm.wpE_take (i := 12) (listed' := (Dm.bits 58 8191)) (by kernel_rfl) (by kernel_rfl) rfl (fun _ _ _ _ h => h) ?_; apply Exists.intro; refine And.intro (fun x => ?_) ?_
        · go_big_quiet_step ((first | (go_at_call 21; with_reducible exact Calls.quietE (C1.out _ (by repeat (first | assumption | exact Ext.refl _ | refine Ext.trans ?_ (ext_grow _ _))))) | (go_at_call 21; with_reducible exact Calls.quietE (C2.out _ (by repeat (first | assumption | exact Ext.refl _ | refine Ext.trans ?_ (ext_grow _ _))))) | (go_at_call 21; with_reducible exact Calls.quietE (C3.out _ (by repeat (first | assumption | exact Ext.refl _ | refine Ext.trans ?_ (ext_grow _ _))))) | (go_at_call 22; with_reducible exact Calls.quietE (C4.out _ (by repeat (first | assumption | exact Ext.refl _ | refine Ext.trans ?_ (ext_grow _ _))))) | (go_at_call 22; with_reducible exact Calls.quietE (C5.out _ (by repeat (first | assumption | exact Ext.refl _ | refine Ext.trans ?_ (ext_grow _ _))))) | (go_at_call 24; with_reducible exact Calls.quietE (C6.out _ (by repeat (first | assumption | exact Ext.refl _ | refine Ext.trans ?_ (ext_grow _ _))))) | (go_at_call 24; with_reducible exact Calls.quietE (C7.out _ (by repeat (first | assumption | exact Ext.refl _ | refine Ext.trans ?_ (ext_grow _ _))))))); exact wpQuiet_nil rfl
        refine Dm.wpE_take (i := 13) (listed' := (Dm.bits 58 16383)) (by kernel_rfl) (by kernel_rfl) rfl (fun _ _ _ _ h => h) ?_; apply Exists.intro; refine And.intro (fun x => ?_) ?_
        · go_big_quiet_step ((first | (go_at_call 21; with_reducible exact Calls.quietE (C1.out _ (by repeat (first | assumption | exact Ext.refl _ | refine Ext.trans ?_ (ext_grow _ _))))) | (go_at_call 21; with_reducible exact Calls.quietE (C2.out _ (by repeat (first | assumption | exact Ext.refl _ | refine Ext.trans ?_ (ext_grow _ _))))) | (go_at_call 21; with_reducible exact Calls.quietE (C3.out _ (by repeat (first | assumption | exact Ext.refl _ | refine Ext.trans ?_ (ext_grow _ _))))) | (go_at_call 22; with_reducible exact Calls.quietE (C4.out _ (by repeat (first | assumption | exact Ext.refl _ | refine Ext.trans ?_ (ext_grow _ _))))) | (go_at_call 22; with_reducible exact Calls.quietE (C5.out _ (by repeat (first | assumption | exact Ext.refl _ | refine Ext.trans ?_ (ext_grow _ _))))) | (go_at_call 24; with_reducible exact Calls.quietE (C6.out _ (by repeat (first | assumption | exact Ext.refl _ | refine Ext.trans ?_ (ext_grow _ _))))) | (go_at_call 24; with_reducible exact Calls.quietE (C7.out _ (by repeat (first | assumption | exact Ext.refl _ | refine Ext.trans ?_ (ext_grow _ _))))))); exact wpQuiet_nil rfl
        refine Dm.wpE_take (i := 14) (listed' := (Dm.bits 58 32767)) (by kernel_rfl) (by kernel_rfl) rfl (fun _ _ _ _ h => h) ?_; apply Exists.intro; refine And.intro (fun x => ?_) ?_
        · go_big_quiet_step ((first | (go_at_call 21; with_reducible exact Calls.quietE (C1.out _ (by repeat (first | assumption | exact Ext.refl _ | refine Ext.trans ?_ (ext_grow _ _))))) | (go_at_call 21; with_reducible exact Calls.quietE (C2.out _ (by repeat (first | assumption | exact Ext.refl _ | refine Ext.trans ?_ (ext_grow _ _))))) | (go_at_call 21; with_reducible exact Calls.quietE (C3.out _ (by repeat (first | assumption | exact Ext.refl _ | refine Ext.trans ?_ (ext_grow _ _))))) | (go_at_call 22; with_reducible exact Calls.quietE (C4.out _ (by repeat (first | assumption | exact Ext.refl _ | refine Ext.trans ?_ (ext_grow _ _))))) | (go_at_call 22; with_reducible exact Calls.quietE (C5.out _ (by repeat (first | assumption | exact Ext.refl _ | refine Ext.trans ?_ (ext_grow _ _))))) | (go_at_call 24; with_reducible exact Calls.quietE (C6.out _ (by repeat (first | assumption | exact Ext.refl _ | refine Ext.trans ?_ (ext_grow _ _))))) | (go_at_call 24; with_reducible exact Calls.quietE (C7.out _ (by repeat (first | assumption | exact Ext.refl _ | refine Ext.trans ?_ (ext_grow _ _))))))); exact wpQuiet_nil rfl
        refine Dm.wpE_take (i := 15) (listed' := (Dm.bits 58 65535)) (by kernel_rfl) (by kernel_rfl) rfl (fun _ _ _ _ h => h) ?_; apply Exists.intro; refine And.intro (fun x => ?_) ?_
        · go_big_quiet_step ((first | (go_at_call 21; with_reducible exact Calls.quietE (C1.out _ (by repeat (first | assumption | exact Ext.refl _ | refine Ext.trans ?_ (ext_grow _ _))))) | (go_at_call 21; with_reducible exact Calls.quietE (C2.out _ (by repeat (first | assumption | exact Ext.refl _ | refine Ext.trans ?_ (ext_grow _ _))))) | (go_at_call 21; with_reducible exact Calls.quietE (C3.out _ (by repeat (first | assumption | exact Ext.refl _ | refine Ext.trans ?_ (ext_grow _ _))))) | (go_at_call 22; with_reducible exact Calls.quietE (C4.out _ (by repeat (first | assumption | exact Ext.refl _ | refine Ext.trans ?_ (ext_grow _ _))))) | (go_at_call 22; with_reducible exact Calls.quietE (C5.out _ (by repeat (first | assumption | exact Ext.refl _ | refine Ext.trans ?_ (ext_grow _ _))))) | (go_at_call 24; with_reducible exact Calls.quietE (C6.out _ (by repeat (first | assumption | exact Ext.refl _ | refine Ext.trans ?_ (ext_grow _ _))))) | (go_at_call 24; with_reducible exact Calls.quietE (C7.out _ (by repeat (first | assumption | exact Ext.refl _ | refine Ext.trans ?_ (ext_grow _ _))))))); exact wpQuiet_nil rfl
        refine Dm.wpE_take (i := 16) (listed' := (Dm.bits 58 131071)) (by kernel_rfl) (by kernel_rfl) rfl (fun _ _ _ _ h => h) ?_; apply Exists.intro; refine And.intro (fun x => ?_) ?_
        · go_big_quiet_step ((first | (go_at_call 21; with_reducible exact Calls.quietE (C1.out _ (by repeat (first | assumption | exact Ext.refl _ | refine Ext.trans ?_ (ext_grow _ _))))) | (go_at_call 21; with_reducible exact Calls.quietE (C2.out _ (by repeat (first | assumption | exact Ext.refl _ | refine Ext.trans ?_ (ext_grow _ _))))) | (go_at_call 21; with_reducible exact Calls.quietE (C3.out _ (by repeat (first | assumption | exact Ext.refl _ | refine Ext.trans ?_ (ext_grow _ _))))) | (go_at_call 22; with_reducible exact Calls.quietE (C4.out _ (by repeat (first | assumption | exact Ext.refl _ | refine Ext.trans ?_ (ext_grow _ _))))) | (go_at_call 22; with_reducible exact Calls.quietE (C5.out _ (by repeat (first | assumption | exact Ext.refl _ | refine Ext.trans ?_ (ext_grow _ _))))) | (go_at_call 24; with_reducible exact Calls.quietE (C6.out _ (by repeat (first | assumption | exact Ext.refl _ | refine Ext.trans ?_ (ext_grow _ _))))) | (go_at_call 24; with_reducible exact Calls.quietE (C7.out _ (by repeat (first | assumption | exact Ext.refl _ | refine Ext.trans ?_ (ext_grow _ _))))))); exact wpQuiet_nil rfl
        refine Dm.wpE_take (i := 17) (listed' := (Dm.bits 58 262143)) (by kernel_rfl) (by kernel_rfl) rfl (fun _ _ _ _ h => h) ?_; apply Exists.intro; refine And.intro (fun x => ?_) ?_
        · go_big_quiet_step ((first | (go_at_call 21; with_reducible exact Calls.quietE (C1.out _ (by repeat (first | assumption | exact Ext.refl _ | refine Ext.trans ?_ (ext_grow _ _))))) | (go_at_call 21; with_reducible exact Calls.quietE (C2.out _ (by repeat (first | assumption | exact Ext.refl _ | refine Ext.trans ?_ (ext_grow _ _))))) | (go_at_call 21; with_reducible exact Calls.quietE (C3.out _ (by repeat (first | assumption | exact Ext.refl _ | refine Ext.trans ?_ (ext_grow _ _))))) | (go_at_call 22; with_reducible exact Calls.quietE (C4.out _ (by repeat (first | assumption | exact Ext.refl _ | refine Ext.trans ?_ (ext_grow _ _))))) | (go_at_call 22; with_reducible exact Calls.quietE (C5.out _ (by repeat (first | assumption | exact Ext.refl _ | refine Ext.trans ?_ (ext_grow _ _))))) | (go_at_call 24; with_reducible exact Calls.quietE (C6.out _ (by repeat (first | assumption | exact Ext.refl _ | refine Ext.trans ?_ (ext_grow _ _))))) | (go_at_call 24; with_reducible exact Calls.quietE (C7.out _ (by repeat (first | assumption | exact Ext.refl _ | refine Ext.trans ?_ (ext_grow _ _))))))); exact wpQuiet_nil rfl
        refine Dm.wpE_take (i := 18) (listed' := (Dm.bits 58 524287)) (by kernel_rfl) (by kernel_rfl) rfl (fun _ _ _ _ h => h) ?_; apply Exists.intro; refine And.intro (fun x => ?_) ?_
        · go_big_quiet_step ((first | (go_at_call 21; with_reducible exact Calls.quietE (C1.out _ (by repeat (first | assumption | exact Ext.refl _ | refine Ext.trans ?_ (ext_grow _ _))))) | (go_at_call 21; with_reducible exact Calls.quietE (C2.out _ (by repeat (first | assumption | exact Ext.refl _ | refine Ext.trans ?_ (ext_grow _ _))))) | (go_at_call 21; with_reducible exact Calls.quietE (C3.out _ (by repeat (first | assumption | exact Ext.refl _ | refine Ext.trans ?_ (ext_grow _ _))))) | (go_at_call 22; with_reducible exact Calls.quietE (C4.out _ (by repeat (first | assumption | exact Ext.refl _ | refine Ext.trans ?_ (ext_grow _ _))))) | (go_at_call 22; with_reducible exact Calls.quietE (C5.out _ (by repeat (first | assumption | exact Ext.refl _ | refine Ext.trans ?_ (ext_grow _ _))))) | (go_at_call 24; with_reducible exact Calls.quietE (C6.out _ (by repeat (first | assumption | exact Ext.refl _ | refine Ext.trans ?_ (ext_grow _ _))))) | (go_at_call 24; with_reducible exact Calls.quietE (C7.out _ (by repeat (first | assumption | exact Ext.refl _ | refine Ext.trans ?_ (ext_grow _ _))))))); exact wpQuiet_nil rfl
        refine Dm.wpE_take (i := 19) (listed' := (Dm.bits 58 1048575)) (by kernel_rfl) (by kernel_rfl) rfl (fun _ _ _ _ h => h) ?_; apply Exists.intro; refine And.intro (fun x => ?_) ?_
        · go_big_quiet_step ((first | (go_at_call 21; with_reducible exact Calls.quietE (C1.out _ (by repeat (first | assumption | exact Ext.refl _ | refine Ext.trans ?_ (ext_grow _ _))))) | (go_at_call 21; with_reducible exact Calls.quietE (C2.out _ (by repeat (first | assumption | exact Ext.refl _ | refine Ext.trans ?_ (ext_grow _ _))))) | (go_at_call 21; with_reducible exact Calls.quietE (C3.out _ (by repeat (first | assumption | exact Ext.refl _ | refine Ext.trans ?_ (ext_grow _ _))))) | (go_at_call 22; with_reducible exact Calls.quietE (C4.out _ (by repeat (first | assumption | exact Ext.refl _ | refine Ext.trans ?_ (ext_grow _ _))))) | (go_at_call 22; with_reducible exact Calls.quietE (C5.out _ (by repeat (first | assumption | exact Ext.refl _ | refine Ext.trans ?_ (ext_grow _ _))))) | (go_at_call 24; with_reducible exact Calls.quietE (C6.out _ (by repeat (first | assumption | exact Ext.refl _ | refine Ext.trans ?_ (ext_grow _ _))))) | (go_at_call 24; with_reducible exact Calls.quietE (C7.out _ (by repeat (first | assumption | exact Ext.refl _ | refine Ext.trans ?_ (ext_grow _ _))))))); exact wpQuiet_nil rfl
        refine Dm.wpE_take (i := 20) (listed' := (Dm.bits 58 2097151)) (by kernel_rfl) (by kernel_rfl) rfl (fun _ _ _ _ h => h) ?_; apply Exists.intro; refine And.intro (fun x => ?_) ?_
        · go_big_quiet_step ((first | (go_at_call 21; with_reducible exact Calls.quietE (C1.out _ (by repeat (first | assumption | exact Ext.refl _ | refine Ext.trans ?_ (ext_grow _ _))))) | (go_at_call 21; with_reducible exact Calls.quietE (C2.out _ (by repeat (first | assumption | exact Ext.refl _ | refine Ext.trans ?_ (ext_grow _ _))))) | (go_at_call 21; with_reducible exact Calls.quietE (C3.out _ (by repeat (first | assumption | exact Ext.refl _ | refine Ext.trans ?_ (ext_grow _ _))))) | (go_at_call 22; with_reducible exact Calls.quietE (C4.out _ (by repeat (first | assumption | exact Ext.refl _ | refine Ext.trans ?_ (ext_grow _ _))))) | (go_at_call 22; with_reducible exact Calls.quietE (C5.out _ (by repeat (first | assumption | exact Ext.refl _ | refine Ext.trans ?_ (ext_grow _ _))))) | (go_at_call 24; with_reducible exact Calls.quietE (C6.out _ (by repeat (first | assumption | exact Ext.refl _ | refine Ext.trans ?_ (ext_grow _ _))))) | (go_at_call 24; with_reducible exact Calls.quietE (C7.out _ (by repeat (first | assumption | exact Ext.refl _ | refine Ext.trans ?_ (ext_grow _ _))))))); exact wpQuiet_nil rfl
        refine Dm.wpE_take (i := 21) (listed' := (Dm.bits 58 4194303)) (by kernel_rfl) (by kernel_rfl) rfl (fun _ _ _ _ h => h) ?_; apply Exists.intro; refine And.intro (fun x => ?_) ?_
        · go_big_quiet_step ((first | (go_at_call 21; with_reducible exact Calls.quietE (C1.out _ (by repeat (first | assumption | exact Ext.refl _ | refine Ext.trans ?_ (ext_grow _ _))))) | (go_at_call 21; with_reducible exact Calls.quietE (C2.out _ (by repeat (first | assumption | exact Ext.refl _ | refine Ext.trans ?_ (ext_grow _ _))))) | (go_at_call 21; with_reducible exact Calls.quietE (C3.out _ (by repeat (first | assumption | exact Ext.refl _ | refine Ext.trans ?_ (ext_grow _ _))))) | (go_at_call 22; with_reducible exact Calls.quietE (C4.out _ (by repeat (first | assumption | exact Ext.refl _ | refine Ext.trans ?_ (ext_grow _ _))))) | (go_at_call 22; with_reducible exact Calls.quietE (C5.out _ (by repeat (first | assumption | exact Ext.refl _ | refine Ext.trans ?_ (ext_grow _ _))))) | (go_at_call 24; with_reducible exact Calls.quietE (C6.out _ (by repeat (first | assumption | exact Ext.refl _ | refine Ext.trans ?_ (ext_grow _ _))))) | (go_at_call 24; with_reducible exact Calls.quietE (C7.out _ (by repeat (first | assumption | exact Ext.refl _ | refine Ext.trans ?_ (ext_grow _ _))))))); exact wpQuiet_nil rfl
        refine Dm.wpE_take (i := 22) (listed' := (Dm.bits 58 8388607)) (by kernel_rfl) (by kernel_rfl) rfl (fun _ _ _ _ h => h) ?_; apply Exists.intro; refine And.intro (fun x => ?_) ?_
        · go_big_quiet_step ((first | (go_at_call 21; with_reducible exact Calls.quietE (C1.out _ (by repeat (first | assumption | exact Ext.refl _ | refine Ext.trans ?_ (ext_grow _ _))))) | (go_at_call 21; with_reducible exact Calls.quietE (C2.out _ (by repeat (first | assumption | exact Ext.refl _ | refine Ext.trans ?_ (ext_grow _ _))))) | (go_at_call 21; with_reducible exact Calls.quietE (C3.out _ (by repeat (first | assumption | exact Ext.refl _ | refine Ext.trans ?_ (ext_grow _ _))))) | (go_at_call 22; with_reducible exact Calls.quietE (C4.out _ (by repeat (first | assumption | exact Ext.refl _ | refine Ext.trans ?_ (ext_grow _ _))))) | (go_at_call 22; with_reducible exact Calls.quietE (C5.out _ (by repeat (first | assumption | exact Ext.refl _ | refine Ext.trans ?_ (ext_grow _ _))))) | (go_at_call 24; with_reducible exact Calls.quietE (C6.out _ (by repeat (first | assumption | exact Ext.refl _ | refine Ext.trans ?_ (ext_grow _ _))))) | (go_at_call 24; with_reducible exact Calls.quietE (C7.out _ (by repeat (first | assumption | exact Ext.refl _ | refine Ext.trans ?_ (ext_grow _ _))))))); exact wpQuiet_nil rfl
        refine Dm.wpE_take (i := 23) (listed' := (Dm.bits 58 16777215)) (by kernel_rfl) (by kernel_rfl) rfl (fun _ _ _ _ h => h) ?_; apply Exists.intro; refine And.intro (fun x => ?_) ?_
        · go_big_quiet_step ((first | (go_at_call 21; with_reducible exact Calls.quietE (C1.out _ (by repeat (first | assumption | exact Ext.refl _ | refine Ext.trans ?_ (ext_grow _ _))))) | (go_at_call 21; with_reducible exact Calls.quietE (C2.out _ (by repeat (first | assumption | exact Ext.refl _ | refine Ext.trans ?_ (ext_grow _ _))))) | (go_at_call 21; with_reducible exact Calls.quietE (C3.out _ (by repeat (first | assumption | exact Ext.refl _ | refine Ext.trans ?_ (ext_grow _ _))))) | (go_at_call 22; with_reducible exact Calls.quietE (C4.out _ (by repeat (first | assumption | exact Ext.refl _ | refine Ext.trans ?_ (ext_grow _ _))))) | (go_at_call 22; with_reducible exact Calls.quietE (C5.out _ (by repeat (first | assumption | exact Ext.refl _ | refine Ext.trans ?_ (ext_grow _ _))))) | (go_at_call 24; with_reducible exact Calls.quietE (C6.out _ (by repeat (first | assumption | exact Ext.refl _ | refine Ext.trans ?_ (ext_grow _ _))))) | (go_at_call 24; with_reducible exact Calls.quietE (C7.out _ (by repeat (first | assumption | exact Ext.refl _ | refine Ext.trans ?_ (ext_grow _ _))))))); exact wpQuiet_nil rfl
        refine Dm.wpE_take (i := 24) (listed' := (Dm.bits 58 33554431)) (by kernel_rfl) (by kernel_rfl) rfl (fun _ _ _ _ h => h) ?_; apply Exists.intro; refine And.intro (fun x => ?_) ?_
        · go_big_quiet_step ((first | (go_at_call 21; with_reducible exact Calls.quietE (C1.out _ (by repeat (first | assumption | exact Ext.refl _ | refine Ext.trans ?_ (ext_grow _ _))))) | (go_at_call 21; with_reducible exact Calls.quietE (C2.out _ (by repeat (first | assumption | exact Ext.refl _ | refine Ext.trans ?_ (ext_grow _ _))))) | (go_at_call 21; with_reducible exact Calls.quietE (C3.out _ (by repeat (first | assumption | exact Ext.refl _ | refine Ext.trans ?_ (ext_grow _ _))))) | (go_at_call 22; with_reducible exact Calls.quietE (C4.out _ (by repeat (first | assumption | exact Ext.refl _ | refine Ext.trans ?_ (ext_grow _ _))))) | (go_at_call 22; with_reducible exact Calls.quietE (C5.out _ (by repeat (first | assumption | exact Ext.refl _ | refine Ext.trans ?_ (ext_grow _ _))))) | (go_at_call 24; with_reducible exact Calls.quietE (C6.out _ (by repeat (first | assumption | exact Ext.refl _ | refine Ext.trans ?_ (ext_grow _ _))))) | (go_at_call 24; with_reducible exact Calls.quietE (C7.out _ (by repeat (first | assumption | exact Ext.refl _ | refine Ext.trans ?_ (ext_grow _ _))))))); exact wpQuiet_nil rfl
        refine Dm.wpE_take (i := 25) (listed' := (Dm.bits 58 67108863)) (by kernel_rfl) (by kernel_rfl) rfl (fun _ _ _ _ h => h) ?_; apply Exists.intro; refine And.intro (fun x => ?_) ?_
        · go_big_quiet_step ((first | (go_at_call 21; with_reducible exact Calls.quietE (C1.out _ (by repeat (first | assumption | exact Ext.refl _ | refine Ext.trans ?_ (ext_grow _ _))))) | (go_at_call 21; with_reducible exact Calls.quietE (C2.out _ (by repeat (first | assumption | exact Ext.refl _ | refine Ext.trans ?_ (ext_grow _ _))))) | (go_at_call 21; with_reducible exact Calls.quietE (C3.out _ (by repeat (first | assumption | exact Ext.refl _ | refine Ext.trans ?_ (ext_grow _ _))))) | (go_at_call 22; with_reducible exact Calls.quietE (C4.out _ (by repeat (first | assumption | exact Ext.refl _ | refine Ext.trans ?_ (ext_grow _ _))))) | (go_at_call 22; with_reducible exact Calls.quietE (C5.out _ (by repeat (first | assumption | exact Ext.refl _ | refine Ext.trans ?_ (ext_grow _ _))))) | (go_at_call 24; with_reducible exact Calls.quietE (C6.out _ (by repeat (first | assumption | exact Ext.refl _ | refine Ext.trans ?_ (ext_grow _ _))))) | (go_at_call 24; with_reducible exact Calls.quietE (C7.out _ (by repeat (first | assumption | exact Ext.refl _ | refine Ext.trans ?_ (ext_grow _ _))))))); exact wpQuiet_nil rfl
        refine Dm.wpE_take (i := 26) (listed' := (Dm.bits 58 134217727)) (by kernel_rfl) (by kernel_rfl) rfl (fun _ _ _ _ h => h) ?_; apply Exists.intro; refine And.intro (fun x => ?_) ?_
        · go_big_quiet_step ((first | (go_at_call 21; with_reducible exact Calls.quietE (C1.out _ (by repeat (first | assumption | exact Ext.refl _ | refine Ext.trans ?_ (ext_grow _ _))))) | (go_at_call 21; with_reducible exact Calls.quietE (C2.out _ (by repeat (first | assumption | exact Ext.refl _ | refine Ext.trans ?_ (ext_grow _ _))))) | (go_at_call 21; with_reducible exact Calls.quietE (C3.out _ (by repeat (first | assumption | exact Ext.refl _ | refine Ext.trans ?_ (ext_grow _ _))))) | (go_at_call 22; with_reducible exact Calls.quietE (C4.out _ (by repeat (first | assumption | exact Ext.refl _ | refine Ext.trans ?_ (ext_grow _ _))))) | (go_at_call 22; with_reducible exact Calls.quietE (C5.out _ (by repeat (first | assumption | exact Ext.refl _ | refine Ext.trans ?_ (ext_grow _ _))))) | (go_at_call 24; with_reducible exact Calls.quietE (C6.out _ (by repeat (first | assumption | exact Ext.refl _ | refine Ext.trans ?_ (ext_grow _ _))))) | (go_at_call 24; with_reducible exact Calls.quietE (C7.out _ (by repeat (first | assumption | exact Ext.refl _ | refine Ext.trans ?_ (ext_grow _ _))))))); exact wpQuiet_nil rfl
        refine Dm.wpE_take (i := 27) (listed' := (Dm.bits 58 268435455)) (by kernel_rfl) (by kernel_rfl) rfl (fun _ _ _ _ h => h) ?_; apply Exists.intro; refine And.intro (fun x => ?_) ?_
        · go_big_quiet_step ((first | (go_at_call 21; with_reducible exact Calls.quietE (C1.out _ (by repeat (first | assumption | exact Ext.refl _ | refine Ext.trans ?_ (ext_grow _ _))))) | (go_at_call 21; with_reducible exact Calls.quietE (C2.out _ (by repeat (first | assumption | exact Ext.refl _ | refine Ext.trans ?_ (ext_grow _ _))))) | (go_at_call 21; with_reducible exact Calls.quietE (C3.out _ (by repeat (first | assumption | exact Ext.refl _ | refine Ext.trans ?_ (ext_grow _ _))))) | (go_at_call 22; with_reducible exact Calls.quietE (C4.out _ (by repeat (first | assumption | exact Ext.refl _ | refine Ext.trans ?_ (ext_grow _ _))))) | (go_at_call 22; with_reducible exact Calls.quietE (C5.out _ (by repeat (first | assumption | exact Ext.refl _ | refine Ext.trans ?_ (ext_grow _ _))))) | (go_at_call 24; with_reducible exact Calls.quietE (C6.out _ (by repeat (first | assumption | exact Ext.refl _ | refine Ext.trans ?_ (ext_grow _ _))))) | (go_at_call 24; with_reducible exact Calls.quietE (C7.out _ (by repeat (first | assumption | exact Ext.refl _ | refine Ext.trans ?_ (ext_grow _ _))))))); exact wpQuiet_nil rfl
        refine Dm.wpE_take (i := 28) (listed' := (Dm.bits 58 536870911)) (by kernel_rfl) (by kernel_rfl) rfl (fun _ _ _ _ h => h) ?_; apply Exists.intro; refine And.intro (fun x => ?_) ?_
        · go_big_quiet_step ((first | (go_at_call 21; with_reducible exact Calls.quietE (C1.out _ (by repeat (first | assumption | exact Ext.refl _ | refine Ext.trans ?_ (ext_grow _ _))))) | (go_at_call 21; with_reducible exact Calls.quietE (C2.out _ (by repeat (first | assumption | exact Ext.refl _ | refine Ext.trans ?_ (ext_grow _ _))))) | (go_at_call 21; with_reducible exact Calls.quietE (C3.out _ (by repeat (first | assumption | exact Ext.refl _ | refine Ext.trans ?_ (ext_grow _ _))))) | (go_at_call 22; with_reducible exact Calls.quietE (C4.out _ (by repeat (first | assumption | exact Ext.refl _ | refine Ext.trans ?_ (ext_grow _ _))))) | (go_at_call 22; with_reducible exact Calls.quietE (C5.out _ (by repeat (first | assumption | exact Ext.refl _ | refine Ext.trans ?_ (ext_grow _ _))))) | (go_at_call 24; with_reducible exact Calls.quietE (C6.out _ (by repeat (first | assumption | exact Ext.refl _ | refine Ext.trans ?_ (ext_grow _ _))))) | (go_at_call 24; with_reducible exact Calls.quietE (C7.out _ (by repeat (first | assumption | exact Ext.refl _ | refine Ext.trans ?_ (ext_grow _ _))))))); exact wpQuiet_nil rfl
        refine Dm.wpE_take (i := 29) (listed' := (Dm.bits 58 1073741823)) (by kernel_rfl) (by kernel_rfl) rfl (fun _ _ _ _ h => h) ?_; apply Exists.intro; refine And.intro (fun x => ?_) ?_
        · go_big_quiet_step ((first | (go_at_call 21; with_reducible exact Calls.quietE (C1.out _ (by repeat (first | assumption | exact Ext.refl _ | refine Ext.trans ?_ (ext_grow _ _))))) | (go_at_call 21; with_reducible exact Calls.quietE (C2.out _ (by repeat (first | assumption | exact Ext.refl _ | refine Ext.trans ?_ (ext_grow _ _))))) | (go_at_call 21; with_reducible exact Calls.quietE (C3.out _ (by repeat (first | assumption | exact Ext.refl _ | refine Ext.trans ?_ (ext_grow _ _))))) | (go_at_call 22; with_reducible exact Calls.quietE (C4.out _ (by repeat (first | assumption | exact Ext.refl _ | refine Ext.trans ?_ (ext_grow _ _))))) | (go_at_call 22; with_reducible exact Calls.quietE (C5.out _ (by repeat (first | assumption | exact Ext.refl _ | refine Ext.trans ?_ (ext_grow _ _))))) | (go_at_call 24; with_reducible exact Calls.quietE (C6.out _ (by repeat (first | assumption | exact Ext.refl _ | refine Ext.trans ?_ (ext_grow _ _))))) | (go_at_call 24; with_reducible exact Calls.quietE (C7.out _ (by repeat (first | assumption | exact Ext.refl _ | refine Ext.trans ?_ (ext_grow _ _))))))); exact wpQuiet_nil rfl
        refine Dm.wpE_take (i := 30) (listed' := (Dm.bits 58 2147483647)) (by kernel_rfl) (by kernel_rfl) rfl (fun _ _ _ _ h => h) ?_; apply Exists.intro; refine And.intro (fun x => ?_) ?_
        · go_big_quiet_step ((first | (go_at_call 21; with_reducible exact Calls.quietE (C1.out _ (by repeat (first | assumption | exact Ext.refl _ | refine Ext.trans ?_ (ext_grow _ _))))) | (go_at_call 21; with_reducible exact Calls.quietE (C2.out _ (by repeat (first | assumption | exact Ext.refl _ | refine Ext.trans ?_ (ext_grow _ _))))) | (go_at_call 21; with_reducible exact Calls.quietE (C3.out _ (by repeat (first | assumption | exact Ext.refl _ | refine Ext.trans ?_ (ext_grow _ _))))) | (go_at_call 22; with_reducible exact Calls.quietE (C4.out _ (by repeat (first | assumption | exact Ext.refl _ | refine Ext.trans ?_ (ext_grow _ _))))) | (go_at_call 22; with_reducible exact Calls.quietE (C5.out _ (by repeat (first | assumption | exact Ext.refl _ | refine Ext.trans ?_ (ext_grow _ _))))) | (go_at_call 24; with_reducible exact Calls.quietE (C6.out _ (by repeat (first | assumption | exact Ext.refl _ | refine Ext.trans ?_ (ext_grow _ _))))) | (go_at_call 24; with_reducible exact Calls.quietE (C7.out _ (by repeat (first | assumption | exact Ext.refl _ | refine Ext.trans ?_ (ext_grow _ _))))))); exact wpQuiet_nil rfl
        refine Dm.wpE_take (i := 31) (listed' := (Dm.bits 58 4294967295)) (by kernel_rfl) (by kernel_rfl) rfl (fun _ _ _ _ h => h) ?_; apply Exists.intro; refine And.intro (fun x => ?_) ?_
        · go_big_quiet_step ((first | (go_at_call 21; with_reducible exact Calls.quietE (C1.out _ (by repeat (first | assumption | exact Ext.refl _ | refine Ext.trans ?_ (ext_grow _ _))))) | (go_at_call 21; with_reducible exact Calls.quietE (C2.out _ (by repeat (first | assumption | exact Ext.refl _ | refine Ext.trans ?_ (ext_grow _ _))))) | (go_at_call 21; with_reducible exact Calls.quietE (C3.out _ (by repeat (first | assumption | exact Ext.refl _ | refine Ext.trans ?_ (ext_grow _ _))))) | (go_at_call 22; with_reducible exact Calls.quietE (C4.out _ (by repeat (first | assumption | exact Ext.refl _ | refine Ext.trans ?_ (ext_grow _ _))))) | (go_at_call 22; with_reducible exact Calls.quietE (C5.out _ (by repeat (first | assumption | exact Ext.refl _ | refine Ext.trans ?_ (ext_grow _ _))))) | (go_at_call 24; with_reducible exact Calls.quietE (C6.out _ (by repeat (first | assumption | exact Ext.refl _ | refine Ext.trans ?_ (ext_grow _ _))))) | (go_at_call 24; with_reducible exact Calls.quietE (C7.out _ (by repeat (first | assumption | exact Ext.refl _ | refine Ext.trans ?_ (ext_grow _ _))))))); exact wpQuiet_nil rfl
        refine Dm.wpE_take (i := 32) (listed' := (Dm.bits 58 8589934591)) (by kernel_rfl) (by kernel_rfl) rfl (fun _ _ _ _ h => h) ?_; apply Exists.intro; refine And.intro (fun x => ?_) ?_
        · go_big_quiet_step ((first | (go_at_call 21; with_reducible exact Calls.quietE (C1.out _ (by repeat (first | assumption | exact Ext.refl _ | refine Ext.trans ?_ (ext_grow _ _))))) | (go_at_call 21; with_reducible exact Calls.quietE (C2.out _ (by repeat (first | assumption | exact Ext.refl _ | refine Ext.trans ?_ (ext_grow _ _))))) | (go_at_call 21; with_reducible exact Calls.quietE (C3.out _ (by repeat (first | assumption | exact Ext.refl _ | refine Ext.trans ?_ (ext_grow _ _))))) | (go_at_call 22; with_reducible exact Calls.quietE (C4.out _ (by repeat (first | assumption | exact Ext.refl _ | refine Ext.trans ?_ (ext_grow _ _))))) | (go_at_call 22; with_reducible exact Calls.quietE (C5.out _ (by repeat (first | assumption | exact Ext.refl _ | refine Ext.trans ?_ (ext_grow _ _))))) | (go_at_call 24; with_reducible exact Calls.quietE (C6.out _ (by repeat (first | assumption | exact Ext.refl _ | refine Ext.trans ?_ (ext_grow _ _))))) | (go_at_call 24; with_reducible exact Calls.quietE (C7.out _ (by repeat (first | assumption | exact Ext.refl _ | refine Ext.trans ?_ (ext_grow _ _))))))); exact wpQuiet_nil rfl
        refine Dm.wpE_take (i := 33) (listed' := (Dm.bits 58 17179869183)) (by kernel_rfl) (by kernel_rfl) rfl (fun _ _ _ _ h => h) ?_; apply Exists.intro; refine And.intro (fun x => ?_) ?_
        · go_big_quiet_step ((first | (go_at_call 21; with_reducible exact Calls.quietE (C1.out _ (by repeat (first | assumption | exact Ext.refl _ | refine Ext.trans ?_ (ext_grow _ _))))) | (go_at_call 21; with_reducible exact Calls.quietE (C2.out _ (by repeat (first | assumption | exact Ext.refl _ | refine Ext.trans ?_ (ext_grow _ _))))) | (go_at_call 21; with_reducible exact Calls.quietE (C3.out _ (by repeat (first | assumption | exact Ext.refl _ | refine Ext.trans ?_ (ext_grow _ _))))) | (go_at_call 22; with_reducible exact Calls.quietE (C4.out _ (by repeat (first | assumption | exact Ext.refl _ | refine Ext.trans ?_ (ext_grow _ _))))) | (go_at_call 22; with_reducible exact Calls.quietE (C5.out _ (by repeat (first | assumption | exact Ext.refl _ | refine Ext.trans ?_ (ext_grow _ _))))) | (go_at_call 24; with_reducible exact Calls.quietE (C6.out _ (by repeat (first | assumption | exact Ext.refl _ | refine Ext.trans ?_ (ext_grow _ _))))) | (go_at_call 24; with_reducible exact Calls.quietE (C7.out _ (by repeat (first | assumption | exact Ext.refl _ | refine Ext.trans ?_ (ext_grow _ _))))))); exact wpQuiet_nil rfl
        refine Dm.wpE_take (i := 34) (listed' := (Dm.bits 58 34359738367)) (by kernel_rfl) (by kernel_rfl) rfl (fun _ _ _ _ h => h) ?_; apply Exists.intro; refine And.intro (fun x => ?_) ?_
        · go_big_quiet_step ((first | (go_at_call 21; with_reducible exact Calls.quietE (C1.out _ (by repeat (first | assumption | exact Ext.refl _ | refine Ext.trans ?_ (ext_grow _ _))))) | (go_at_call 21; with_reducible exact Calls.quietE (C2.out _ (by repeat (first | assumption | exact Ext.refl _ | refine Ext.trans ?_ (ext_grow _ _))))) | (go_at_call 21; with_reducible exact Calls.quietE (C3.out _ (by repeat (first | assumption | exact Ext.refl _ | refine Ext.trans ?_ (ext_grow _ _))))) | (go_at_call 22; with_reducible exact Calls.quietE (C4.out _ (by repeat (first | assumption | exact Ext.refl _ | refine Ext.trans ?_ (ext_grow _ _))))) | (go_at_call 22; with_reducible exact Calls.quietE (C5.out _ (by repeat (first | assumption | exact Ext.refl _ | refine Ext.trans ?_ (ext_grow _ _))))) | (go_at_call 24; with_reducible exact Calls.quietE (C6.out _ (by repeat (first | assumption | exact Ext.refl _ | refine Ext.trans ?_ (ext_grow _ _))))) | (go_at_call 24; with_reducible exact Calls.quietE (C7.out _ (by repeat (first | assumption | exact Ext.refl _ | refine Ext.trans ?_ (ext_grow _ _))))))); exact wpQuiet_nil rfl
        refine Dm.wpE_take (i := 35) (listed' := (Dm.bits 58 68719476735)) (by kernel_rfl) (by kernel_rfl) rfl (fun _ _ _ _ h => h) ?_; apply Exists.intro; refine And.intro (fun x => ?_) ?_
        · go_big_quiet_step ((first | (go_at_call 21; with_reducible exact Calls.quietE (C1.out _ (by repeat (first | assumption | exact Ext.refl _ | refine Ext.trans ?_ (ext_grow _ _))))) | (go_at_call 21; with_reducible exact Calls.quietE (C2.out _ (by repeat (first | assumption | exact Ext.refl _ | refine Ext.trans ?_ (ext_grow _ _))))) | (go_at_call 21; with_reducible exact Calls.quietE (C3.out _ (by repeat (first | assumption | exact Ext.refl _ | refine Ext.trans ?_ (ext_grow _ _))))) | (go_at_call 22; with_reducible exact Calls.quietE (C4.out _ (by repeat (first | assumption | exact Ext.refl _ | refine Ext.trans ?_ (ext_grow _ _))))) | (go_at_call 22; with_reducible exact Calls.quietE (C5.out _ (by repeat (first | assumption | exact Ext.refl _ | refine Ext.trans ?_ (ext_grow _ _))))) | (go_at_call 24; with_reducible exact Calls.quietE (C6.out _ (by repeat (first | assumption | exact Ext.refl _ | refine Ext.trans ?_ (ext_grow _ _))))) | (go_at_call 24; with_reducible exact Calls.quietE (C7.out _ (by repeat (first | assumption | exact Ext.refl _ | refine Ext.trans ?_ (ext_grow _ _))))))); exact wpQuiet_nil rfl
        refine Dm.wpE_take (i := 36) (listed' := (Dm.bits 58 137438953471)) (by kernel_rfl) (by kernel_rfl) rfl (fun _ _ _ _ h => h) ?_; apply Exists.intro; refine And.intro (fun x => ?_) ?_
        · go_big_quiet_step ((first | (go_at_call 21; with_reducible exact Calls.quietE (C1.out _ (by repeat (first | assumption | exact Ext.refl _ | refine Ext.trans ?_ (ext_grow _ _))))) | (go_at_call 21; with_reducible exact Calls.quietE (C2.out _ (by repeat (first | assumption | exact Ext.refl _ | refine Ext.trans ?_ (ext_grow _ _))))) | (go_at_call 21; with_reducible exact Calls.quietE (C3.out _ (by repeat (first | assumption | exact Ext.refl _ | refine Ext.trans ?_ (ext_grow _ _))))) | (go_at_call 22; with_reducible exact Calls.quietE (C4.out _ (by repeat (first | assumption | exact Ext.refl _ | refine Ext.trans ?_ (ext_grow _ _))))) | (go_at_call 22; with_reducible exact Calls.quietE (C5.out _ (by repeat (first | assumption | exact Ext.refl _ | refine Ext.trans ?_ (ext_grow _ _))))) | (go_at_call 24; with_reducible exact Calls.quietE (C6.out _ (by repeat (first | assumption | exact Ext.refl _ | refine Ext.trans ?_ (ext_grow _ _))))) | (go_at_call 24; with_reducible exact Calls.quietE (C7.out _ (by repeat (first | assumption | exact Ext.refl _ | refine Ext.trans ?_ (ext_grow _ _))))))); exact wpQuiet_nil rfl
        refine Dm.wpE_take (i := 37) (listed' := (Dm.bits 58 274877906943)) (by kernel_rfl) (by kernel_rfl) rfl (fun _ _ _ _ h => h) ?_; apply Exists.intro; refine And.intro (fun x => ?_) ?_
        · go_big_quiet_step ((first | (go_at_call 21; with_reducible exact Calls.quietE (C1.out _ (by repeat (first | assumption | exact Ext.refl _ | refine Ext.trans ?_ (ext_grow _ _))))) | (go_at_call 21; with_reducible exact Calls.quietE (C2.out _ (by repeat (first | assumption | exact Ext.refl _ | refine Ext.trans ?_ (ext_grow _ _))))) | (go_at_call 21; with_reducible exact Calls.quietE (C3.out _ (by repeat (first | assumption | exact Ext.refl _ | refine Ext.trans ?_ (ext_grow _ _))))) | (go_at_call 22; with_reducible exact Calls.quietE (C4.out _ (by repeat (first | assumption | exact Ext.refl _ | refine Ext.trans ?_ (ext_grow _ _))))) | (go_at_call 22; with_reducible exact Calls.quietE (C5.out _ (by repeat (first | assumption | exact Ext.refl _ | refine Ext.trans ?_ (ext_grow _ _))))) | (go_at_call 24; with_reducible exact Calls.quietE (C6.out _ (by repeat (first | assumption | exact Ext.refl _ | refine Ext.trans ?_ (ext_grow _ _))))) | (go_at_call 24; with_reducible exact Calls.quietE (C7.out _ (by repeat (first | assumption | exact Ext.refl _ | refine Ext.trans ?_ (ext_grow _ _))))))); exact wpQuiet_nil rfl
        refine Dm.wpE_take (i := 38) (listed' := (Dm.bits 58 549755813887)) (by kernel_rfl) (by kernel_rfl) rfl (fun _ _ _ _ h => h) ?_; apply Exists.intro; refine And.intro (fun x => ?_) ?_
        · go_big_quiet_step ((first | (go_at_call 21; with_reducible exact Calls.quietE (C1.out _ (by repeat (first | assumption | exact Ext.refl _ | refine Ext.trans ?_ (ext_grow _ _))))) | (go_at_call 21; with_reducible exact Calls.quietE (C2.out _ (by repeat (first | assumption | exact Ext.refl _ | refine Ext.trans ?_ (ext_grow _ _))))) | (go_at_call 21; with_reducible exact Calls.quietE (C3.out _ (by repeat (first | assumption | exact Ext.refl _ | refine Ext.trans ?_ (ext_grow _ _))))) | (go_at_call 22; with_reducible exact Calls.quietE (C4.out _ (by repeat (first | assumption | exact Ext.refl _ | refine Ext.trans ?_ (ext_grow _ _))))) | (go_at_call 22; with_reducible exact Calls.quietE (C5.out _ (by repeat (first | assumption | exact Ext.refl _ | refine Ext.trans ?_ (ext_grow _ _))))) | (go_at_call 24; with_reducible exact Calls.quietE (C6.out _ (by repeat (first | assumption | exact Ext.refl _ | refine Ext.trans ?_ (ext_grow _ _))))) | (go_at_call 24; with_reducible exact Calls.quietE (C7.out _ (by repeat (first | assumption | exact Ext.refl _ | refine Ext.trans ?_ (ext_grow _ _))))))); exact wpQuiet_nil rfl
        refine Dm.wpE_take (i := 39) (listed' := (Dm.bits 58 1099511627775)) (by kernel_rfl) (by kernel_rfl) rfl (fun _ _ _ _ h => h) ?_; apply Exists.intro; refine And.intro (fun x => ?_) ?_
        · go_big_quiet_step ((first | (go_at_call 21; with_reducible exact Calls.quietE (C1.out _ (by repeat (first | assumption | exact Ext.refl _ | refine Ext.trans ?_ (ext_grow _ _))))) | (go_at_call 21; with_reducible exact Calls.quietE (C2.out _ (by repeat (first | assumption | exact Ext.refl _ | refine Ext.trans ?_ (ext_grow _ _))))) | (go_at_call 21; with_reducible exact Calls.quietE (C3.out _ (by repeat (first | assumption | exact Ext.refl _ | refine Ext.trans ?_ (ext_grow _ _))))) | (go_at_call 22; with_reducible exact Calls.quietE (C4.out _ (by repeat (first | assumption | exact Ext.refl _ | refine Ext.trans ?_ (ext_grow _ _))))) | (go_at_call 22; with_reducible exact Calls.quietE (C5.out _ (by repeat (first | assumption | exact Ext.refl _ | refine Ext.trans ?_ (ext_grow _ _))))) | (go_at_call 24; with_reducible exact Calls.quietE (C6.out _ (by repeat (first | assumption | exact Ext.refl _ | refine Ext.trans ?_ (ext_grow _ _))))) | (go_at_call 24; with_reducible exact Calls.quietE (C7.out _ (by repeat (first | assumption | exact Ext.refl _ | refine Ext.trans ?_ (ext_grow _ _))))))); exact wpQuiet_nil rfl
        refine Dm.wpE_take (i := 40) (listed' := (Dm.bits 58 2199023255551)) (by kernel_rfl) (by kernel_rfl) rfl (fun _ _ _ _ h => h) ?_; apply Exists.intro; refine And.intro (fun x => ?_) ?_
        · go_big_quiet_step ((first | (go_at_call 21; with_reducible exact Calls.quietE (C1.out _ (by repeat (first | assumption | exact Ext.refl _ | refine Ext.trans ?_ (ext_grow _ _))))) | (go_at_call 21; with_reducible exact Calls.quietE (C2.out _ (by repeat (first | assumption | exact Ext.refl _ | refine Ext.trans ?_ (ext_grow _ _))))) | (go_at_call 21; with_reducible exact Calls.quietE (C3.out _ (by repeat (first | assumption | exact Ext.refl _ | refine Ext.trans ?_ (ext_grow _ _))))) | (go_at_call 22; with_reducible exact Calls.quietE (C4.out _ (by repeat (first | assumption | exact Ext.refl _ | refine Ext.trans ?_ (ext_grow _ _))))) | (go_at_call 22; with_reducible exact Calls.quietE (C5.out _ (by repeat (first | assumption | exact Ext.refl _ | refine Ext.trans ?_ (ext_grow _ _))))) | (go_at_call 24; with_reducible exact Calls.quietE (C6.out _ (by repeat (first | assumption | exact Ext.refl _ | refine Ext.trans ?_ (ext_grow _ _))))) | (go_at_call 24; with_reducible exact Calls.quietE (C7.out _ (by repeat (first | assumption | exact Ext.refl _ | refine Ext.trans ?_ (ext_grow _ _))))))); exact wpQuiet_nil rfl
        refine Dm.wpE_take (i := 41) (listed' := (Dm.bits 58 4398046511103)) (by kernel_rfl) (by kernel_rfl) rfl (fun _ _ _ _ h => h) ?_; apply Exists.intro; refine And.intro (fun x => ?_) ?_
        · go_big_quiet_step ((first | (go_at_call 21; with_reducible exact Calls.quietE (C1.out _ (by repeat (first | assumption | exact Ext.refl _ | refine Ext.trans ?_ (ext_grow _ _))))) | (go_at_call 21; with_reducible exact Calls.quietE (C2.out _ (by repeat (first | assumption | exact Ext.refl _ | refine Ext.trans ?_ (ext_grow _ _))))) | (go_at_call 21; with_reducible exact Calls.quietE (C3.out _ (by repeat (first | assumption | exact Ext.refl _ | refine Ext.trans ?_ (ext_grow _ _))))) | (go_at_call 22; with_reducible exact Calls.quietE (C4.out _ (by repeat (first | assumption | exact Ext.refl _ | refine Ext.trans ?_ (ext_grow _ _))))) | (go_at_call 22; with_reducible exact Calls.quietE (C5.out _ (by repeat (first | assumption | exact Ext.refl _ | refine Ext.trans ?_ (ext_grow _ _))))) | (go_at_call 24; with_reducible exact Calls.quietE (C6.out _ (by repeat (first | assumption | exact Ext.refl _ | refine Ext.trans ?_ (ext_grow _ _))))) | (go_at_call 24; with_reducible exact Calls.quietE (C7.out _ (by repeat (first | assumption | exact Ext.refl _ | refine Ext.trans ?_ (ext_grow _ _))))))); exact wpQuiet_nil rfl
        refine Dm.wpE_take (i := 42) (listed' := (Dm.bits 58 8796093022207)) (by kernel_rfl) (by kernel_rfl) rfl (fun _ _ _ _ h => h) ?_; apply Exists.intro; refine And.intro (fun x => ?_) ?_
        · go_big_quiet_step ((first | (go_at_call 21; with_reducible exact Calls.quietE (C1.out _ (by repeat (first | assumption | exact Ext.refl _ | refine Ext.trans ?_ (ext_grow _ _))))) | (go_at_call 21; with_reducible exact Calls.quietE (C2.out _ (by repeat (first | assumption | exact Ext.refl _ | refine Ext.trans ?_ (ext_grow _ _))))) | (go_at_call 21; with_reducible exact Calls.quietE (C3.out _ (by repeat (first | assumption | exact Ext.refl _ | refine Ext.trans ?_ (ext_grow _ _))))) | (go_at_call 22; with_reducible exact Calls.quietE (C4.out _ (by repeat (first | assumption | exact Ext.refl _ | refine Ext.trans ?_ (ext_grow _ _))))) | (go_at_call 22; with_reducible exact Calls.quietE (C5.out _ (by repeat (first | assumption | exact Ext.refl _ | refine Ext.trans ?_ (ext_grow _ _))))) | (go_at_call 24; with_reducible exact Calls.quietE (C6.out _ (by repeat (first | assumption | exact Ext.refl _ | refine Ext.trans ?_ (ext_grow _ _))))) | (go_at_call 24; with_reducible exact Calls.quietE (C7.out _ (by repeat (first | assumption | exact Ext.refl _ | refine Ext.trans ?_ (ext_grow _ _))))))); exact wpQuiet_nil rfl
        refine Dm.wpE_take (i := 43) (listed' := (Dm.bits 58 17592186044415)) (by kernel_rfl) (by kernel_rfl) rfl (fun _ _ _ _ h => h) ?_; apply Exists.intro; refine And.intro (fun x => ?_) ?_
        · go_big_quiet_step ((first | (go_at_call 21; with_reducible exact Calls.quietE (C1.out _ (by repeat (first | assumption | exact Ext.refl _ | refine Ext.trans ?_ (ext_grow _ _))))) | (go_at_call 21; with_reducible exact Calls.quietE (C2.out _ (by repeat (first | assumption | exact Ext.refl _ | refine Ext.trans ?_ (ext_grow _ _))))) | (go_at_call 21; with_reducible exact Calls.quietE (C3.out _ (by repeat (first | assumption | exact Ext.refl _ | refine Ext.trans ?_ (ext_grow _ _))))) | (go_at_call 22; with_reducible exact Calls.quietE (C4.out _ (by repeat (first | assumption | exact Ext.refl _ | refine Ext.trans ?_ (ext_grow _ _))))) | (go_at_call 22; with_reducible exact Calls.quietE (C5.out _ (by repeat (first | assumption | exact Ext.refl _ | refine Ext.trans ?_ (ext_grow _ _))))) | (go_at_call 24; with_reducible exact Calls.quietE (C6.out _ (by repeat (first | assumption | exact Ext.refl _ | refine Ext.trans ?_ (ext_grow _ _))))) | (go_at_call 24; with_reducible exact Calls.quietE (C7.out _ (by repeat (first | assumption | exact Ext.refl _ | refine Ext.trans ?_ (ext_grow _ _))))))); exact wpQuiet_nil rfl
        refine Dm.wpE_take (i := 44) (listed' := (Dm.bits 58 35184372088831)) (by kernel_rfl) (by kernel_rfl) rfl (fun _ _ _ _ h => h) ?_; apply Exists.intro; refine And.intro (fun x => ?_) ?_
        · go_big_quiet_step ((first | (go_at_call 21; with_reducible exact Calls.quietE (C1.out _ (by repeat (first | assumption | exact Ext.refl _ | refine Ext.trans ?_ (ext_grow _ _))))) | (go_at_call 21; with_reducible exact Calls.quietE (C2.out _ (by repeat (first | assumption | exact Ext.refl _ | refine Ext.trans ?_ (ext_grow _ _))))) | (go_at_call 21; with_reducible exact Calls.quietE (C3.out _ (by repeat (first | assumption | exact Ext.refl _ | refine Ext.trans ?_ (ext_grow _ _))))) | (go_at_call 22; with_reducible exact Calls.quietE (C4.out _ (by repeat (first | assumption | exact Ext.refl _ | refine Ext.trans ?_ (ext_grow _ _))))) | (go_at_call 22; with_reducible exact Calls.quietE (C5.out _ (by repeat (first | assumption | exact Ext.refl _ | refine Ext.trans ?_ (ext_grow _ _))))) | (go_at_call 24; with_reducible exact Calls.quietE (C6.out _ (by repeat (first | assumption | exact Ext.refl _ | refine Ext.trans ?_ (ext_grow _ _))))) | (go_at_call 24; with_reducible exact Calls.quietE (C7.out _ (by repeat (first | assumption | exact Ext.refl _ | refine Ext.trans ?_ (ext_grow _ _))))))); exact wpQuiet_nil rfl
        refine Dm.wpE_take (i := 45) (listed' := (Dm.bits 58 70368744177663)) (by kernel_rfl) (by kernel_rfl) rfl (fun _ _ _ _ h => h) ?_; apply Exists.intro; refine And.intro (fun x => ?_) ?_
        · go_big_quiet_step ((first | (go_at_call 21; with_reducible exact Calls.quietE (C1.out _ (by repeat (first | assumption | exact Ext.refl _ | refine Ext.trans ?_ (ext_grow _ _))))) | (go_at_call 21; with_reducible exact Calls.quietE (C2.out _ (by repeat (first | assumption | exact Ext.refl _ | refine Ext.trans ?_ (ext_grow _ _))))) | (go_at_call 21; with_reducible exact Calls.quietE (C3.out _ (by repeat (first | assumption | exact Ext.refl _ | refine Ext.trans ?_ (ext_grow _ _))))) | (go_at_call 22; with_reducible exact Calls.quietE (C4.out _ (by repeat (first | assumption | exact Ext.refl _ | refine Ext.trans ?_ (ext_grow _ _))))) | (go_at_call 22; with_reducible exact Calls.quietE (C5.out _ (by repeat (first | assumption | exact Ext.refl _ | refine Ext.trans ?_ (ext_grow _ _))))) | (go_at_call 24; with_reducible exact Calls.quietE (C6.out _ (by repeat (first | assumption | exact Ext.refl _ | refine Ext.trans ?_ (ext_grow _ _))))) | (go_at_call 24; with_reducible exact Calls.quietE (C7.out _ (by repeat (first | assumption | exact Ext.refl _ | refine Ext.trans ?_ (ext_grow _ _))))))); exact wpQuiet_nil rfl
        refine Dm.wpE_take (i := 46) (listed' := (Dm.bits 58 140737488355327)) (by kernel_rfl) (by kernel_rfl) rfl (fun _ _ _ _ h => h) ?_; apply Exists.intro; refine And.intro (fun x => ?_) ?_
        · go_big_quiet_step ((first | (go_at_call 21; with_reducible exact Calls.quietE (C1.out _ (by repeat (first | assumption | exact Ext.refl _ | refine Ext.trans ?_ (ext_grow _ _))))) | (go_at_call 21; with_reducible exact Calls.quietE (C2.out _ (by repeat (first | assumption | exact Ext.refl _ | refine Ext.trans ?_ (ext_grow _ _))))) | (go_at_call 21; with_reducible exact Calls.quietE (C3.out _ (by repeat (first | assumption | exact Ext.refl _ | refine Ext.trans ?_ (ext_grow _ _))))) | (go_at_call 22; with_reducible exact Calls.quietE (C4.out _ (by repeat (first | assumption | exact Ext.refl _ | refine Ext.trans ?_ (ext_grow _ _))))) | (go_at_call 22; with_reducible exact Calls.quietE (C5.out _ (by repeat (first | assumption | exact Ext.refl _ | refine Ext.trans ?_ (ext_grow _ _))))) | (go_at_call 24; with_reducible exact Calls.quietE (C6.out _ (by repeat (first | assumption | exact Ext.refl _ | refine Ext.trans ?_ (ext_grow _ _))))) | (go_at_call 24; with_reducible exact Calls.quietE (C7.out _ (by repeat (first | assumption | exact Ext.refl _ | refine Ext.trans ?_ (ext_grow _ _))))))); exact wpQuiet_nil rfl
        refine Dm.wpE_take (i := 47) (listed' := (Dm.bits 58 281474976710655)) (by kernel_rfl) (by kernel_rfl) rfl (fun _ _ _ _ h => h) ?_; apply Exists.intro; refine And.intro (fun x => ?_) ?_
        · go_big_quiet_step ((first | (go_at_call 21; with_reducible exact Calls.quietE (C1.out _ (by repeat (first | assumption | exact Ext.refl _ | refine Ext.trans ?_ (ext_grow _ _))))) | (go_at_call 21; with_reducible exact Calls.quietE (C2.out _ (by repeat (first | assumption | exact Ext.refl _ | refine Ext.trans ?_ (ext_grow _ _))))) | (go_at_call 21; with_reducible exact Calls.quietE (C3.out _ (by repeat (first | assumption | exact Ext.refl _ | refine Ext.trans ?_ (ext_grow _ _))))) | (go_at_call 22; with_reducible exact Calls.quietE (C4.out _ (by repeat (first | assumption | exact Ext.refl _ | refine Ext.trans ?_ (ext_grow _ _))))) | (go_at_call 22; with_reducible exact Calls.quietE (C5.out _ (by repeat (first | assumption | exact Ext.refl _ | refine Ext.trans ?_ (ext_grow _ _))))) | (go_at_call 24; with_reducible exact Calls.quietE (C6.out _ (by repeat (first | assumption | exact Ext.refl _ | refine Ext.trans ?_ (ext_grow _ _))))) | (go_at_call 24; with_reducible exact Calls.quietE (C7.out _ (by repeat (first | assumption | exact Ext.refl _ | refine Ext.trans ?_ (ext_grow _ _))))))); exact wpQuiet_nil rfl
        refine Dm.wpE_take (i := 48) (listed' := (Dm.bits 58 562949953421311)) (by kernel_rfl) (by kernel_rfl) rfl (fun _ _ _ _ h => h) ?_; apply Exists.intro; refine And.intro (fun x => ?_) ?_
        · go_big_quiet_step ((first | (go_at_call 21; with_reducible exact Calls.quietE (C1.out _ (by repeat (first | assumption | exact Ext.refl _ | refine Ext.trans ?_ (ext_grow _ _))))) | (go_at_call 21; with_reducible exact Calls.quietE (C2.out _ (by repeat (first | assumption | exact Ext.refl _ | refine Ext.trans ?_ (ext_grow _ _))))) | (go_at_call 21; with_reducible exact Calls.quietE (C3.out _ (by repeat (first | assumption | exact Ext.refl _ | refine Ext.trans ?_ (ext_grow _ _))))) | (go_at_call 22; with_reducible exact Calls.quietE (C4.out _ (by repeat (first | assumption | exact Ext.refl _ | refine Ext.trans ?_ (ext_grow _ _))))) | (go_at_call 22; with_reducible exact Calls.quietE (C5.out _ (by repeat (first | assumption | exact Ext.refl _ | refine Ext.trans ?_ (ext_grow _ _))))) | (go_at_call 24; with_reducible exact Calls.quietE (C6.out _ (by repeat (first | assumption | exact Ext.refl _ | refine Ext.trans ?_ (ext_grow _ _))))) | (go_at_call 24; with_reducible exact Calls.quietE (C7.out _ (by repeat (first | assumption | exact Ext.refl _ | refine Ext.trans ?_ (ext_grow _ _))))))); exact wpQuiet_nil rfl
        refine Dm.wpE_take (i := 49) (listed' := (Dm.bits 58 1125899906842623)) (by kernel_rfl) (by kernel_rfl) rfl (fun _ _ _ _ h => h) ?_; apply Exists.intro; refine And.intro (fun x => ?_) ?_
        · go_big_quiet_step ((first | (go_at_call 21; with_reducible exact Calls.quietE (C1.out _ (by repeat (first | assumption | exact Ext.refl _ | refine Ext.trans ?_ (ext_grow _ _))))) | (go_at_call 21; with_reducible exact Calls.quietE (C2.out _ (by repeat (first | assumption | exact Ext.refl _ | refine Ext.trans ?_ (ext_grow _ _))))) | (go_at_call 21; with_reducible exact Calls.quietE (C3.out _ (by repeat (first | assumption | exact Ext.refl _ | refine Ext.trans ?_ (ext_grow _ _))))) | (go_at_call 22; with_reducible exact Calls.quietE (C4.out _ (by repeat (first | assumption | exact Ext.refl _ | refine Ext.trans ?_ (ext_grow _ _))))) | (go_at_call 22; with_reducible exact Calls.quietE (C5.out _ (by repeat (first | assumption | exact Ext.refl _ | refine Ext.trans ?_ (ext_grow _ _))))) | (go_at_call 24; with_reducible exact Calls.quietE (C6.out _ (by repeat (first | assumption | exact Ext.refl _ | refine Ext.trans ?_ (ext_grow _ _))))) | (go_at_call 24; with_reducible exact Calls.quietE (C7.out _ (by repeat (first | assumption | exact Ext.refl _ | refine Ext.trans ?_ (ext_grow _ _))))))); exact wpQuiet_nil rfl
        refine Dm.wpE_take (i := 50) (listed' := (Dm.bits 58 2251799813685247)) (by kernel_rfl) (by kernel_rfl) rfl (fun _ _ _ _ h => h) ?_; apply Exists.intro; refine And.intro (fun x => ?_) ?_
        · go_big_quiet_step ((first | (go_at_call 21; with_reducible exact Calls.quietE (C1.out _ (by repeat (first | assumption | exact Ext.refl _ | refine Ext.trans ?_ (ext_grow _ _))))) | (go_at_call 21; with_reducible exact Calls.quietE (C2.out _ (by repeat (first | assumption | exact Ext.refl _ | refine Ext.trans ?_ (ext_grow _ _))))) | (go_at_call 21; with_reducible exact Calls.quietE (C3.out _ (by repeat (first | assumption | exact Ext.refl _ | refine Ext.trans ?_ (ext_grow _ _))))) | (go_at_call 22; with_reducible exact Calls.quietE (C4.out _ (by repeat (first | assumption | exact Ext.refl _ | refine Ext.trans ?_ (ext_grow _ _))))) | (go_at_call 22; with_reducible exact Calls.quietE (C5.out _ (by repeat (first | assumption | exact Ext.refl _ | refine Ext.trans ?_ (ext_grow _ _))))) | (go_at_call 24; with_reducible exact Calls.quietE (C6.out _ (by repeat (first | assumption | exact Ext.refl _ | refine Ext.trans ?_ (ext_grow _ _))))) | (go_at_call 24; with_reducible exact Calls.quietE (C7.out _ (by repeat (first | assumption | exact Ext.refl _ | refine Ext.trans ?_ (ext_grow _ _))))))); exact wpQuiet_nil rfl
        refine Dm.wpE_take (i := 51) (listed' := (Dm.bits 58 4503599627370495)) (by kernel_rfl) (by kernel_rfl) rfl (fun _ _ _ _ h => h) ?_; apply Exists.intro; refine And.intro (fun x => ?_) ?_
        · go_big_quiet_step ((first | (go_at_call 21; with_reducible exact Calls.quietE (C1.out _ (by repeat (first | assumption | exact Ext.refl _ | refine Ext.trans ?_ (ext_grow _ _))))) | (go_at_call 21; with_reducible exact Calls.quietE (C2.out _ (by repeat (first | assumption | exact Ext.refl _ | refine Ext.trans ?_ (ext_grow _ _))))) | (go_at_call 21; with_reducible exact Calls.quietE (C3.out _ (by repeat (first | assumption | exact Ext.refl _ | refine Ext.trans ?_ (ext_grow _ _))))) | (go_at_call 22; with_reducible exact Calls.quietE (C4.out _ (by repeat (first | assumption | exact Ext.refl _ | refine Ext.trans ?_ (ext_grow _ _))))) | (go_at_call 22; with_reducible exact Calls.quietE (C5.out _ (by repeat (first | assumption | exact Ext.refl _ | refine Ext.trans ?_ (ext_grow _ _))))) | (go_at_call 24; with_reducible exact Calls.quietE (C6.out _ (by repeat (first | assumption | exact Ext.refl _ | refine Ext.trans ?_ (ext_grow _ _))))) | (go_at_call 24; with_reducible exact Calls.quietE (C7.out _ (by repeat (first | assumption | exact Ext.refl _ | refine Ext.trans ?_ (ext_grow _ _))))))); exact wpQuiet_nil rfl
        refine Dm.wpE_take (i := 52) (listed' := (Dm.bits 58 9007199254740991)) (by kernel_rfl) (by kernel_rfl) rfl (fun _ _ _ _ h => h) ?_; apply Exists.intro; refine And.intro (fun x => ?_) ?_
        · go_big_quiet_step ((first | (go_at_call 21; with_reducible exact Calls.quietE (C1.out _ (by repeat (first | assumption | exact Ext.refl _ | refine Ext.trans ?_ (ext_grow _ _))))) | (go_at_call 21; with_reducible exact Calls.quietE (C2.out _ (by repeat (first | assumption | exact Ext.refl _ | refine Ext.trans ?_ (ext_grow _ _))))) | (go_at_call 21; with_reducible exact Calls.quietE (C3.out _ (by repeat (first | assumption | exact Ext.refl _ | refine Ext.trans ?_ (ext_grow _ _))))) | (go_at_call 22; with_reducible exact Calls.quietE (C4.out _ (by repeat (first | assumption | exact Ext.refl _ | refine Ext.trans ?_ (ext_grow _ _))))) | (go_at_call 22; with_reducible exact Calls.quietE (C5.out _ (by repeat (first | assumption | exact Ext.refl _ | refine Ext.trans ?_ (ext_grow _ _))))) | (go_at_call 24; with_reducible exact Calls.quietE (C6.out _ (by repeat (first | assumption | exact Ext.refl _ | refine Ext.trans ?_ (ext_grow _ _))))) | (go_at_call 24; with_reducible exact Calls.quietE (C7.out _ (by repeat (first | assumption | exact Ext.refl _ | refine Ext.trans ?_ (ext_grow _ _))))))); exact wpQuiet_nil rfl
        refine Dm.wpE_take (i := 53) (listed' := (Dm.bits 58 18014398509481983)) (by kernel_rfl) (by kernel_rfl) rfl (fun _ _ _ _ h => h) ?_; apply Exists.intro; refine And.intro (fun x => ?_) ?_
        · go_big_quiet_step ((first | (go_at_call 21; with_reducible exact Calls.quietE (C1.out _ (by repeat (first | assumption | exact Ext.refl _ | refine Ext.trans ?_ (ext_grow _ _))))) | (go_at_call 21; with_reducible exact Calls.quietE (C2.out _ (by repeat (first | assumption | exact Ext.refl _ | refine Ext.trans ?_ (ext_grow _ _))))) | (go_at_call 21; with_reducible exact Calls.quietE (C3.out _ (by repeat (first | assumption | exact Ext.refl _ | refine Ext.trans ?_ (ext_grow _ _))))) | (go_at_call 22; with_reducible exact Calls.quietE (C4.out _ (by repeat (first | assumption | exact Ext.refl _ | refine Ext.trans ?_ (ext_grow _ _))))) | (go_at_call 22; with_reducible exact Calls.quietE (C5.out _ (by repeat (first | assumption | exact Ext.refl _ | refine Ext.trans ?_ (ext_grow _ _))))) | (go_at_call 24; with_reducible exact Calls.quietE (C6.out _ (by repeat (first | assumption | exact Ext.refl _ | refine Ext.trans ?_ (ext_grow _ _))))) | (go_at_call 24; with_reducible exact Calls.quietE (C7.out _ (by repeat (first | assumption | exact Ext.refl _ | refine Ext.trans ?_ (ext_grow _ _))))))); exact wpQuiet_nil rfl
        refine Dm.wpE_take (i := 54) (listed' := (Dm.bits 58 36028797018963967)) (by kernel_rfl) (by kernel_rfl) rfl (fun _ _ _ _ h => h) ?_; apply Exists.intro; refine And.intro (fun x => ?_) ?_
        · go_big_quiet_step ((first | (go_at_call 21; with_reducible exact Calls.quietE (C1.out _ (by repeat (first | assumption | exact Ext.refl _ | refine Ext.trans ?_ (ext_grow _ _))))) | (go_at_call 21; with_reducible exact Calls.quietE (C2.out _ (by repeat (first | assumption | exact Ext.refl _ | refine Ext.trans ?_ (ext_grow _ _))))) | (go_at_call 21; with_reducible exact Calls.quietE (C3.out _ (by repeat (first | assumption | exact Ext.refl _ | refine Ext.trans ?_ (ext_grow _ _))))) | (go_at_call 22; with_reducible exact Calls.quietE (C4.out _ (by repeat (first | assumption | exact Ext.refl _ | refine Ext.trans ?_ (ext_grow _ _))))) | (go_at_call 22; with_reducible exact Calls.quietE (C5.out _ (by repeat (first | assumption | exact Ext.refl _ | refine Ext.trans ?_ (ext_grow _ _))))) | (go_at_call 24; with_reducible exact Calls.quietE (C6.out _ (by repeat (first | assumption | exact Ext.refl _ | refine Ext.trans ?_ (ext_grow _ _))))) | (go_at_call 24; with_reducible exact Calls.quietE (C7.out _ (by repeat (first | assumption | exact Ext.refl _ | refine Ext.trans ?_ (ext_grow _ _))))))); exact wpQuiet_nil rfl
        refine Dm.wpE_take (i := 55) (listed' := (Dm.bits 58 72057594037927935)) (by kernel_rfl) (by kernel_rfl) rfl (fun _ _ _ _ h => h) ?_; apply Exists.intro; refine And.intro (fun x => ?_) ?_
        · go_big_quiet_step ((first | (go_at_call 21; with_reducible exact Calls.quietE (C1.out _ (by repeat (first | assumption | exact Ext.refl _ | refine Ext.trans ?_ (ext_grow _ _))))) | (go_at_call 21; with_reducible exact Calls.quietE (C2.out _ (by repeat (first | assumption | exact Ext.refl _ | refine Ext.trans ?_ (ext_grow _ _))))) | (go_at_call 21; with_reducible exact Calls.quietE (C3.out _ (by repeat (first | assumption | exact Ext.refl _ | refine Ext.trans ?_ (ext_grow _ _))))) | (go_at_call 22; with_reducible exact Calls.quietE (C4.out _ (by repeat (first | assumption | exact Ext.refl _ | refine Ext.trans ?_ (ext_grow _ _))))) | (go_at_call 22; with_reducible exact Calls.quietE (C5.out _ (by repeat (first | assumption | exact Ext.refl _ | refine Ext.trans ?_ (ext_grow _ _))))) | (go_at_call 24; with_reducible exact Calls.quietE (C6.out _ (by repeat (first | assumption | exact Ext.refl _ | refine Ext.trans ?_ (ext_grow _ _))))) | (go_at_call 24; with_reducible exact Calls.quietE (C7.out _ (by repeat (first | assumption | exact Ext.refl _ | refine Ext.trans ?_ (ext_grow _ _))))))); exact wpQuiet_nil rfl
        refine Dm.wpE_take (i := 56) (listed' := (Dm.bits 58 144115188075855871)) (by kernel_rfl) (by kernel_rfl) rfl (fun _ _ _ _ h => h) ?_; apply Exists.intro; refine And.intro (fun x => ?_) ?_
        · go_big_quiet_step ((first | (go_at_call 21; with_reducible exact Calls.quietE (C1.out _ (by repeat (first | assumption | exact Ext.refl _ | refine Ext.trans ?_ (ext_grow _ _))))) | (go_at_call 21; with_reducible exact Calls.quietE (C2.out _ (by repeat (first | assumption | exact Ext.refl _ | refine Ext.trans ?_ (ext_grow _ _))))) | (go_at_call 21; with_reducible exact Calls.quietE (C3.out _ (by repeat (first | assumption | exact Ext.refl _ | refine Ext.trans ?_ (ext_grow _ _))))) | (go_at_call 22; with_reducible exact Calls.quietE (C4.out _ (by repeat (first | assumption | exact Ext.refl _ | refine Ext.trans ?_ (ext_grow _ _))))) | (go_at_call 22; with_reducible exact Calls.quietE (C5.out _ (by repeat (first | assumption | exact Ext.refl _ | refine Ext.trans ?_ (ext_grow _ _))))) | (go_at_call 24; with_reducible exact Calls.quietE (C6.out _ (by repeat (first | assumption | exact Ext.refl _ | refine Ext.trans ?_ (ext_grow _ _))))) | (go_at_call 24; with_reducible exact Calls.quietE (C7.out _ (by repeat (first | assumption | exact Ext.refl _ | refine Ext.trans ?_ (ext_grow _ _))))))); exact wpQuiet_nil rfl
        refine Dm.wpE_take (i := 57) (listed' := (Dm.bits 58 288230376151711743)) (by kernel_rfl) (by kernel_rfl) rfl (fun _ _ _ _ h => h) ?_; apply Exists.intro; refine And.intro (fun x => ?_) ?_
        · go_big_quiet_step ((first | (go_at_call 21; with_reducible exact Calls.quietE (C1.out _ (by repeat (first | assumption | exact Ext.refl _ | refine Ext.trans ?_ (ext_grow _ _))))) | (go_at_call 21; with_reducible exact Calls.quietE (C2.out _ (by repeat (first | assumption | exact Ext.refl _ | refine Ext.trans ?_ (ext_grow _ _))))) | (go_at_call 21; with_reducible exact Calls.quietE (C3.out _ (by repeat (first | assumption | exact Ext.refl _ | refine Ext.trans ?_ (ext_grow _ _))))) | (go_at_call 22; with_reducible exact Calls.quietE (C4.out _ (by repeat (first | assumption | exact Ext.refl _ | refine Ext.trans ?_ (ext_grow _ _))))) | (go_at_call 22; with_reducible exact Calls.quietE (C5.out _ (by repeat (first | assumption | exact Ext.refl _ | refine Ext.trans ?_ (ext_grow _ _))))) | (go_at_call 24; with_reducible exact Calls.quietE (C6.out _ (by repeat (first | assumption | exact Ext.refl _ | refine Ext.trans ?_ (ext_grow _ _))))) | (go_at_call 24; with_reducible exact Calls.quietE (C7.out _ (by repeat (first | assumption | exact Ext.refl _ | refine Ext.trans ?_ (ext_grow _ _))))))); exact wpQuiet_nil rfl
        refine Dm.wpE_done (by kernel_rfl) (Ext.refl w17) (fun w1a hx1a => ?_)
        have hX1a := Ext.trans (Ext.refl w17) hx1a
        go_wp2
        go_ret
        exact ⟨rfl, hE.trans hX1a⟩
end Go.Proofs.YthmhalcloogniaaGreatDoor
