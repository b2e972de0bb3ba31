/- Texts one behind the other: Chapter 19: the walk of GateStrange. -/
import Derived.Test.YtefjdmjkofaajaaGreatDoorB47
import Derived.Lib.ConvBytes
namespace Go.Dm
open Go Go.RowKit
/-- What a text made bytes holds. -/
theorem bytes_block (w : World) (e : TypeId) (s : ByteArray) : Ext w (Lib.bytesWorld w e s) ∧ w.heap.size < (Lib.bytesWorld w e s).heap.size ∧
  (∀ j, j < s.size → (Lib.bytesWorld w e s).cell? ⟨w.heap.size, j, none⟩ = some (.int .u8 (s.data.toList.getD j 0).toNat)) ∧ (∀ j, j < s.size → (Lib.bytesWorld w e s).frozen? ⟨w.heap.size, j, none⟩ = false) := by
 refine ⟨⟨rfl, rfl, rfl, by rw [Lib.bytesWorld_size]; omega, fun k hk => Lib.bytesWorld_at_old w e s k hk⟩, by rw [Lib.bytesWorld_size]; omega, fun j hj => Lib.bytesWorld_cell w e s j hj, fun j hj => ?_⟩
 have h1 : s.size ≤ (Lib.bytesCells w e s).size := by
  unfold Lib.bytesCells
  rw [Array.size_append, Array.size_map]
  show s.size ≤ s.size + _
  omega
 simp [World.frozen?, Lib.bytesWorld_at_new]
 omega
set_option maxRecDepth 100000 in
theorem strange_all : ∀ x : Nat, x < 256 → ∀ r : Nat, r < 8 → 0 ≤ Go.bits .xor .u8 (x : Int) ((2 : Int) ^ r % 256) ∧ Go.bits .xor .u8 (x : Int) ((2 : Int) ^ r % 256) < 256 ∧ Go.bits .xor .u8 (x : Int) ((2 : Int) ^ r % 256) ≠ (x : Int) := by decide +kernel
theorem strange_byte {x r : Nat} (hx : x < 256) (hr : r < 8) : ∃ z : UInt8, Go.bits .xor .u8 (x : Int) ((2 : Int) ^ r % 256) = (z.toNat : Int) ∧ z.toNat ≠ x := by
 obtain ⟨h1, h2, h3⟩ := strange_all x hx r hr
 have e : (UInt8.ofNat (Go.bits .xor .u8 (x : Int) ((2 : Int) ^ r % 256)).toNat).toNat = (Go.bits .xor .u8 (x : Int) ((2 : Int) ^ r % 256)).toNat := by
  rw [UInt8.toNat_ofNat']
  exact Nat.mod_eq_of_lt (by omega)
 refine ⟨UInt8.ofNat (Go.bits .xor .u8 (x : Int) ((2 : Int) ^ r % 256)).toNat, ?_, ?_⟩
 ·rw [e]; omega
 ·rw [e]; omega
/-- Another sum is no sum of the key's. -/
theorem check_strange (key : Bs) (l : List Cav) (sg : ByteArray) (h : sg.data.toList ≠ narrowB (signB key [97]) (mintL l)) : checkT key (⟨#[97]⟩, mintL l, sg) = false := by
 unfold checkT
 rw [Bool.and_eq_false_iff]
 exact Or.inr (decide_eq_false fun e => h e.symm)
theorem check_bare (key : Bs) : checkT key (⟨#[97]⟩, [], ⟨#[]⟩) = false := by
 unfold checkT
 rw [Bool.and_eq_false_iff]
 refine Or.inr (decide_eq_false fun e => ?_)
 have e : signB key [97] = [] := e
 have := signB_len key [97]
 rw [e] at this
 cases this
end Go.Dm
namespace Go.Proofs.YtefjdmjkofaajaaGreatDoor
open Go.RowKit Go.Dm

set_option maxHeartbeats 4000000 in
set_option maxRecDepth 100000 in
theorem gateStrange_w (key : ByteArray) (l : List Cav) (V : Value) (k : Int) (bit : Nat) (more : ByteArray) (v : Value) (w : World) (hk : key.size ≤ 140737488351232) (hx : Cavs w v l) (hU : ∀ c ∈ l, U64 c.2) (hV : KindAt V k) (hbit : bit ≤ 255) (hmo : more.size ≤ 140737488351232) (ha : Vars w) (hs : ShaV w) (hg : GateV w) :
  Calls Tryz.prog 7 #[.string key, v, V, .int .u8 (bit : Nat), .string more] w fun e w' => e = .returned (.bool true) ∧ Ext w w' := by
 have CX : Hid (∀ U, Ext w U → Calls Tryz.prog 9 #[] U fun e w' => e = .returned (.bool true) ∧ Ext U w') := fun U h => exam_w U (ha.ext h) (hs.ext h) (hg.ext h)
 have CM : Hid (∀ (K : ByteArray) U, Ext w U → K.size ≤ 281474976710656 → Calls Tryz.prog 24 #[.string K, v] U fun e w' => (∃ T, e = .returned T ∧ TokAt w' T (mintT K.data.toList l)) ∧ Ext U w') := fun K U h h2 =>
  (minted_w K v l U h2 (Sl.ext hx h) hU (hs.ext h)).mono fun e w' ⟨T, h1, h2, h3⟩ => ⟨⟨T, h1, h2⟩, h3⟩
 have CA : Hid (∀ (K : ByteArray) T (t : TokQ) U, Ext w U → K.size ≤ 281474976710656 → TokC U T t → checkT K.data.toList t = false → Calls Tryz.prog 18 #[.string K, T, V, .int .u64 0] U fun e w' => e = .returned (.int .i64 13) ∧ Ext U w') := fun K T t U h h2 hT hc => by
  have := gallowK_w K T V t k 0 U h2 hT hV (hs.ext h) (hg.ext h)
  unfold allowK at this
  rw [if_pos hc] at this
  exact this
 obtain ⟨v1, v2, v3, v4, v5, v6, v7, v8, v9, v10, v11, v12, v13, v14, v15, v16, v17, rfl⟩ := hV
 obtain ⟨q, cap, rfl, _, _⟩ := hx.shape
 obtain ⟨w1, hW1, hA, hE, -⟩ := new_row w 33 [.int .i64 k, v1, v2, v3, v4, v5, v6, v7, v8, v9, v10, v11, v12, v13, v14, v15, v16, v17]
 obtain ⟨bA, hbA⟩ : ∃ x, w.heap.size = x := ⟨_, rfl⟩
 rw [hbA] at hA
 clear hx
 go_enter Tryz.func7, Tryz.ntmps7
 go_upto_region 1 with fail
 clear hW1 hbA
 go_wp2_with fail
 refine (CX.out _ hE).mono ?_; rintro e_ w2 ⟨rfl, h2⟩
 replace hE := hE.trans h2
 replace hA := hA.ext h2
 clear h2
 go_upto_region 5 with fail
 have hK : (key.extract 0 (min (key.size : Int) 100).toNat).size ≤ 281474976710656 := by rw [ByteArray.size_extract]; omega
 generalize key.extract 0 (min (key.size : Int) 100).toNat = K at *
 go_wp2_with fail
 refine (CM.out K _ hE hK).mono ?_; rintro e_ w3 ⟨⟨T_, rfl, hT⟩, h3⟩
 replace hE := hE.trans h3
 replace hA := hA.ext h3
 clear h3
 obtain ⟨vt, rfl, hCv, hOk⟩ := hT
 obtain ⟨qt, ct, rfl, _, _⟩ := hCv.shape
 unfold mintT at hCv hOk ⊢
 simp only at hCv hOk ⊢
 obtain ⟨sg, hsg⟩ : ∃ s : ByteArray, s = ⟨(narrowB (signB K.data.toList [97]) (mintL l)).toArray⟩ := ⟨_, rfl⟩
 have h32 : sg.size = 32 := by rw [hsg]; show (narrowB _ _).toArray.size = _; rw [List.size_toArray, narrowB_len (signB_len _ _)]
 rw [← hsg]
 replace hsg := Lib.hid hsg
 have hCv : Sl w3 2 _ _ _ := hCv
 have hB := RB.new w3 24 [.string ⟨#[97]⟩, .slice qt (mintL l).length ct, .string sg]
 have e_ : Ext w3 (w3.alloc (.cells #[.string ⟨#[97]⟩, .slice qt (mintL l).length ct, .string sg] 24)) := (Ext.refl w3).alloc _
 go_upto_region 6 with fail
 change RB w3.heap.size 24 [.string ⟨#[97]⟩, .slice qt (mintL l).length ct, .string sg] (w3.alloc (.cells #[.string ⟨#[97]⟩, .slice qt (mintL l).length ct, .string sg] 24)) at hB
 replace hE := hE.trans e_
 replace hA := hA.ext e_
 replace hCv := hCv.ext e_
 clear e_
 generalize w3.alloc (.cells #[.string ⟨#[97]⟩, .slice qt (mintL l).length ct, .string sg] 24) = w4 at *
 generalize w3.heap.size = bT at *
 have bl := hB.lt
 have c2 : w4.cell? ⟨bT, 2, none⟩ = some (.string sg) := hB.cell 2
 have hcv := Lib.run_convert_string_bytes w4 9 70 5 sg Tryz.underlying9 Tryz.underlying70 Tryz.underlying5
 have hY := bytes_block w4 5 sg
 rw [h32] at hcv hY
 have nA : w4.heap.size ≠ bA := by have := hA.lt; omega
 have nT : w4.heap.size ≠ bT := by have := hB.lt; omega
 have nw : w.heap.size ≤ w4.heap.size := hE.size
 have nC : (mintL l).length = 0 ∨ ∀ c, (Value.slice qt (mintL l).length ct).ownBlock = some c → c ≠ w4.heap.size := by
  rcases Nat.eq_zero_or_pos (mintL l).length with h0 | h0
  ·exact Or.inl h0
  ·exact Or.inr fun c hc => by have := Sl.own_lt hCv (by omega) hc; omega
 go_upto_region 7 with fail
 clear bl c2 hcv
 obtain ⟨e_, hYl, hYc, hYf⟩ := hY
 replace hE := hE.trans e_
 replace hA := hA.ext e_
 replace hCv := hCv.ext e_
 replace hB := hB.ext e_
 clear e_
 generalize Lib.bytesWorld w4 5 sg = w5 at *
 generalize grownCap w4 32 0 5 = cp at *
 generalize w4.heap.size = bY at *
 go_upto_region 9 with fail
 obtain ⟨i, r, hi, hr8, hb8⟩ : ∃ i r : Nat, i < 32 ∧ r < 8 ∧ bit = 8 * i + r := ⟨bit / 8, bit % 8, by omega, by omega, by omega⟩
 have h8 : (bit : Int) / 8 = (i : Int) := by omega
 have hm8 : (bit : Int) % 8 = (r : Int) := by omega
 have y0 := hYc i hi
 have yf := hYf i hi
 obtain ⟨x, hxd⟩ : ∃ x, x = (sg.data.toList.getD i 0).toNat := ⟨_, rfl⟩
 have hx256 : x < 256 := by rw [hxd]; exact (sg.data.toList.getD i 0).toNat_lt
 obtain ⟨z, hz, hzx⟩ := strange_byte hx256 hr8
 have hln : sg.data.toList.length = 32 := h32
 have hl2 : (sg.data.toList.set i z).length = 32 := by rw [List.length_set]; exact hln
 have hne : sg.data.toList.set i z ≠ sg.data.toList := fun e => by
  have h1 : (sg.data.toList.set i z).getD i 0 = z := by rw [List.getD_eq_getElem?_getD, List.getElem?_set_self (by omega)]; rfl
  rw [e] at h1
  rw [h1] at hxd
  exact hzx hxd.symm
 have hcs : ∀ j (hj : j < (sg.data.toList.set i z).length), (w5.setCell ⟨bY, i, none⟩ (.int .u8 (z.toNat : Int))).cell? ⟨bY, j, none⟩ = some (.int .u8 ((sg.data.toList.set i z)[j].toNat : Int)) := fun j hj => by
  by_cases e : i = j
  ·subst e
   rw [List.getElem_set_self]
   first | exact World.cell?_setCell_same _ _ _ y0 | exact World.cell?_setCell_same _ _ y0
  ·have hn : (⟨bY, i, none⟩ : Addr) ≠ ⟨bY, j, none⟩ := fun h => by injection h with _ h; exact e h
   rw [World.cell?_setCell_other (h := hn), hYc j (by omega), List.getElem_set_ne e, List.getD_eq_getElem?_getD, List.getElem?_eq_getElem (by omega)]
   rfl
 rw [← hxd] at y0
 replace hxd := Lib.hid hxd
 replace hYc := Lib.hid hYc
 replace hYf := Lib.hid hYf
 replace hcs := Lib.hid hcs
 replace hne := Lib.hid hne
 replace hz := Lib.hid hz
 replace hl2 := Lib.hid hl2
 clear hb8 hbit hx256 hzx hln
 go_upto_region 10 with fail
 rw [hz.out]
 clear y0 yf h8 hm8
 have hA' : RB bA 33 [.int .i64 k, v1, v2, v3, v4, v5, v6, v7, v8, v9, v10, v11, v12, v13, v14, v15, v16, v17] (w5.setCell ⟨bY, i, none⟩ (.int .u8 (z.toNat : Int))) := hA.far nA _
 have hB' : RB bT 24 [.string ⟨#[97]⟩, .slice qt (mintL l).length ct, .string sg] (w5.setCell ⟨bY, i, none⟩ (.int .u8 (z.toNat : Int))) := hB.far nT _
 have hE' : Ext w (w5.setCell ⟨bY, i, none⟩ (.int .u8 (z.toNat : Int))) := Below.setCell hE (p := ⟨bY, i, none⟩) nw _
 have hCv' : Sl (w5.setCell ⟨bY, i, none⟩ (.int .u8 (z.toNat : Int))) 2 _ _ _ := Sl.off0 hCv ((Off.refl bY w5).setCell i _) nC
 clear hA hB hE hCv nC
 have hYl2 : bY < (w5.setCell ⟨bY, i, none⟩ (.int .u8 (z.toNat : Int))).heap.size := by rw [World.size_setCell]; exact hYl
 have hA := hA'
 have hB := hB'
 have hE := hE'
 have hCv := hCv'
 clear hA' hB' hE' hCv' hYl
 generalize w5.setCell ⟨bY, i, none⟩ (.int .u8 (z.toNat : Int)) = w6 at *
 generalize hl2e : sg.data.toList.set i z = l2 at *
 clear hl2e
 have hUu := RB.new w6 24 [.string ⟨#[97]⟩, .slice qt (mintL l).length ct, .string sg]
 have e_ : Ext w6 (w6.alloc (.cells #[.string ⟨#[97]⟩, .slice qt (mintL l).length ct, .string sg] 24)) := (Ext.refl w6).alloc _
 have nbUA : w6.heap.size ≠ bA := by have := hA.lt; omega
 have nbUT : w6.heap.size ≠ bT := by have := hB.lt; omega
 have nbUw : w.heap.size ≤ w6.heap.size := hE.size
 have nbUC : (mintL l).length = 0 ∨ ∀ c, (Value.slice qt (mintL l).length ct).ownBlock = some c → c ≠ w6.heap.size := by
  rcases Nat.eq_zero_or_pos (mintL l).length with h0 | h0
  ·exact Or.inl h0
  ·exact Or.inr fun c hc => by have := Sl.own_lt hCv (by omega) hc; omega
 skip
 go_upto_region 11 with (refine wpList_load_row_g (by kernel_rfl) 24 _ rfl bT rfl _ _ _ _ hB Tryz.underlying24 rfl (by kernel_rfl) ?_)
 change RB w6.heap.size 24 [.string ⟨#[97]⟩, .slice qt (mintL l).length ct, .string sg] (w6.alloc (.cells #[.string ⟨#[97]⟩, .slice qt (mintL l).length ct, .string sg] 24)) at hUu
 replace hE := hE.trans e_
 replace hA := hA.ext e_
 replace hCv := hCv.ext e_
 replace hB := hB.ext e_
 have hcs2 : Hid (∀ j (hj : j < l2.length), (w6.alloc (.cells #[.string ⟨#[97]⟩, .slice qt (mintL l).length ct, .string sg] 24)).cell? ⟨bY, j, none⟩ = some (.int .u8 (l2[j].toNat : Int))) := fun j hj => by
  rw [e_.cell (p := ⟨bY, j, none⟩) hYl2]; exact hcs.out j hj
 clear hcs e_ hYl2
 generalize w6.alloc (.cells #[.string ⟨#[97]⟩, .slice qt (mintL l).length ct, .string sg] 24) = w7 at *
 generalize w6.heap.size = bU at *
 have hcb := run_convert_bytes_back (P := Tryz.prog) w7 70 9 5 ⟨bY, 0, none⟩ cp l2 Tryz.underlying70 Tryz.underlying5 Tryz.underlying9 (fun j hj => by
  have e0 : (⟨bY, 0, none⟩ : Addr).add j = ⟨bY, j, none⟩ := by unfold Addr.add; split <;> simp_all
  rw [e0]; exact hcs2.out j hj)
 rw [hl2.out] at hcb
 clear hcs2
 have ul := hUu.lt
 have u2 : w7.cell? ⟨bU, 2, none⟩ = some (.string sg) := hUu.cell 2
 have uf := hUu.free 2
 go_upto_region 12 with fail
 clear ul u2 uf hcb
 have h1_ : RB bU 24 [.string ⟨#[97]⟩, .slice qt (mintL l).length ct, .string ⟨l2.toArray⟩] (w7.setCell ⟨bU, 2, none⟩ (.string ⟨l2.toArray⟩)) := hUu.set 2 (.string ⟨l2.toArray⟩)
 have hA' : RB bA 33 [.int .i64 k, v1, v2, v3, v4, v5, v6, v7, v8, v9, v10, v11, v12, v13, v14, v15, v16, v17] (w7.setCell ⟨bU, 2, none⟩ (.string ⟨l2.toArray⟩)) := hA.far nbUA _
 have hB' : RB bT 24 [.string ⟨#[97]⟩, .slice qt (mintL l).length ct, .string sg] (w7.setCell ⟨bU, 2, none⟩ (.string ⟨l2.toArray⟩)) := hB.far nbUT _
 have hE' : Ext w (w7.setCell ⟨bU, 2, none⟩ (.string ⟨l2.toArray⟩)) := Below.setCell hE (p := ⟨bU, 2, none⟩) nbUw _
 have hCv' : Sl (w7.setCell ⟨bU, 2, none⟩ (.string ⟨l2.toArray⟩)) 2 _ _ _ := Sl.off0 hCv ((Off.refl bU w7).setCell 2 _) nbUC
 clear hE hCv hUu hA hB
 have hA := hA'
 have hB := hB'
 have hE := hE'
 have hCv := hCv'
 clear hE' hCv' hA' hB'
 have hUu := h1_
 clear h1_
 generalize w7.setCell ⟨bU, 2, none⟩ (.string ⟨l2.toArray⟩) = w8 at *
 have hVv := RB.new w8 24 [.string ⟨#[97]⟩, .slice qt (mintL l).length ct, .string sg]
 have e_ : Ext w8 (w8.alloc (.cells #[.string ⟨#[97]⟩, .slice qt (mintL l).length ct, .string sg] 24)) := (Ext.refl w8).alloc _
 have nbVA : w8.heap.size ≠ bA := by have := hA.lt; omega
 have nbVT : w8.heap.size ≠ bT := by have := hB.lt; omega
 have nbVw : w.heap.size ≤ w8.heap.size := hE.size
 have nbVC : (mintL l).length = 0 ∨ ∀ c, (Value.slice qt (mintL l).length ct).ownBlock = some c → c ≠ w8.heap.size := by
  rcases Nat.eq_zero_or_pos (mintL l).length with h0 | h0
  ·exact Or.inl h0
  ·exact Or.inr fun c hc => by have := Sl.own_lt hCv (by omega) hc; omega
 have nbVU : w8.heap.size ≠ bU := by have := hUu.lt; omega
 go_upto_region 13 with (refine wpList_load_row_g (by kernel_rfl) 24 _ rfl bT rfl _ _ _ _ hB Tryz.underlying24 rfl (by kernel_rfl) ?_)
 change RB w8.heap.size 24 [.string ⟨#[97]⟩, .slice qt (mintL l).length ct, .string sg] (w8.alloc (.cells #[.string ⟨#[97]⟩, .slice qt (mintL l).length ct, .string sg] 24)) at hVv
 replace hE := hE.trans e_
 replace hA := hA.ext e_
 replace hCv := hCv.ext e_
 replace hB := hB.ext e_
 replace hUu := hUu.ext e_
 clear e_
 generalize w8.alloc (.cells #[.string ⟨#[97]⟩, .slice qt (mintL l).length ct, .string sg] 24) = w9 at *
 generalize w8.heap.size = bV at *
 have bl := hB.lt
 have b2 : w9.cell? ⟨bT, 2, none⟩ = some (.string sg) := hB.cell 2
 have vl := hVv.lt
 have v2_ : w9.cell? ⟨bV, 2, none⟩ = some (.string sg) := hVv.cell 2
 have vf := hVv.free 2
 go_upto_region 14 with fail
 clear bl b2 vl v2_ vf
 have h1_ : RB bV 24 [.string ⟨#[97]⟩, .slice qt (mintL l).length ct, .string (sg ++ more)] (w9.setCell ⟨bV, 2, none⟩ (.string (sg ++ more))) := hVv.set 2 (.string (sg ++ more))
 have hA' : RB bA 33 [.int .i64 k, v1, v2, v3, v4, v5, v6, v7, v8, v9, v10, v11, v12, v13, v14, v15, v16, v17] (w9.setCell ⟨bV, 2, none⟩ (.string (sg ++ more))) := hA.far nbVA _
 have hB' : RB bT 24 [.string ⟨#[97]⟩, .slice qt (mintL l).length ct, .string sg] (w9.setCell ⟨bV, 2, none⟩ (.string (sg ++ more))) := hB.far nbVT _
 have hUu' : RB bU 24 [.string ⟨#[97]⟩, .slice qt (mintL l).length ct, .string ⟨l2.toArray⟩] (w9.setCell ⟨bV, 2, none⟩ (.string (sg ++ more))) := hUu.far nbVU _
 have hE' : Ext w (w9.setCell ⟨bV, 2, none⟩ (.string (sg ++ more))) := Below.setCell hE (p := ⟨bV, 2, none⟩) nbVw _
 have hCv' : Sl (w9.setCell ⟨bV, 2, none⟩ (.string (sg ++ more))) 2 _ _ _ := Sl.off0 hCv ((Off.refl bV w9).setCell 2 _) nbVC
 clear hE hCv hVv hA hB hUu
 have hA := hA'
 have hB := hB'
 have hUu := hUu'
 have hE := hE'
 have hCv := hCv'
 clear hE' hCv' hA' hB' hUu'
 have hVv := h1_
 clear h1_
 generalize w9.setCell ⟨bV, 2, none⟩ (.string (sg ++ more)) = w10 at *
 have hsgd : sg.data.toList = narrowB (signB K.data.toList [97]) (mintL l) := by rw [hsg.out]
 have k1 := check_strange K.data.toList l ⟨l2.toArray⟩ (by rw [← hsgd]; exact hne.out)
 have k2 : ¬ more.data.toList = [] → checkT K.data.toList (⟨#[97]⟩, mintL l, sg ++ more) = false := fun h => check_strange K.data.toList l (sg ++ more) (by
  rw [← hsgd, data_append]
  intro e
  have := congrArg List.length e
  rw [List.length_append] at this
  exact h (List.length_eq_zero_iff.1 (by omega)))
 have k3 := check_bare K.data.toList
 have hml := (mintL_len l).1
 have hmu := mintL_u64 hU
 have tc : ∀ U (sv : ByteArray), Sl U 2 (.slice qt (mintL l).length ct) (mintL l).length (cavC (mintL l)) → TokC U (.agg #[.string ⟨#[97]⟩, .slice qt (mintL l).length ct, .string sv]) (⟨#[97]⟩, mintL l, sv) := fun U sv h => ⟨_, rfl, h, by show (1 : Nat) ≤ _; omega, by show (mintL l).length ≤ _; omega, hmu⟩
 have t0 : ∀ U, TokC U (.agg #[.string ⟨#[97]⟩, .slice none 0 0, .string ⟨#[]⟩]) (⟨#[97]⟩, [], ⟨#[]⟩) := fun U => ⟨_, rfl, Sl.nil U 2, by show (1 : Nat) ≤ _; omega, by show (0 : Nat) ≤ _; omega, fun c hc => by cases hc⟩
 have em := emptyB more.data.toList
 rw [show (⟨more.data.toList.toArray⟩ : ByteArray) = more from rfl] at em
 replace k1 := Lib.hid k1
 replace k2 := Lib.hid k2
 replace k3 := Lib.hid k3
 replace tc := Lib.hid tc
 replace t0 := Lib.hid t0
 replace hsgd := Lib.hid hsgd
 clear hml hmu hsgd
 go_wp2_with (first | (refine wpList_load_row_g (by kernel_rfl) 24 _ rfl bU rfl _ _ _ _ hUu Tryz.underlying24 rfl (by kernel_rfl) ?_) | (refine wpList_load_row_g (by kernel_rfl) 33 _ rfl bA rfl _ _ _ _ hA Tryz.underlying33 rfl (by kernel_rfl) ?_))
 refine (CA.out K _ _ _ hE hK (tc.out _ ⟨l2.toArray⟩ hCv) k1.out).mono ?_; rintro e_ w11 ⟨rfl, h11⟩
 replace hE := hE.trans h11
 replace hA := hA.ext h11
 replace hCv := hCv.ext h11
 replace hB := hB.ext h11
 replace hUu := hUu.ext h11
 replace hVv := hVv.ext h11
 clear h11
 by_cases hm0 : more.data.toList = []
 ·
  rw [decide_eq_true hm0] at em
  have bl := hB.lt
  have b0 : w11.cell? ⟨bT, 0, none⟩ = some (.string ⟨#[97]⟩) := hB.cell 0
  go_wp2_with (first | (refine wpList_load_row_g (by kernel_rfl) 33 _ rfl bA rfl _ _ _ _ hA Tryz.underlying33 rfl (by kernel_rfl) ?_))
  refine (CA.out K _ _ _ hE hK (t0.out _) k3.out).mono ?_; rintro e_ w12 ⟨rfl, h12⟩
  replace hE := hE.trans h12
  replace hA := hA.ext h12
  replace hCv := hCv.ext h12
  replace hB := hB.ext h12
  replace hUu := hUu.ext h12
  replace hVv := hVv.ext h12
  clear h12
  go_wp2
  go_ret
  exact ⟨by simp, hE⟩
 ·
  rw [decide_eq_false hm0] at em
  go_wp2_with (first | (refine wpList_load_row_g (by kernel_rfl) 24 _ rfl bV rfl _ _ _ _ hVv Tryz.underlying24 rfl (by kernel_rfl) ?_) | (refine wpList_load_row_g (by kernel_rfl) 33 _ rfl bA rfl _ _ _ _ hA Tryz.underlying33 rfl (by kernel_rfl) ?_))
  refine (CA.out K _ _ _ hE hK (tc.out _ (sg ++ more) hCv) (k2.out hm0)).mono ?_; rintro e_ w12 ⟨rfl, h12⟩
  replace hE := hE.trans h12
  replace hA := hA.ext h12
  replace hCv := hCv.ext h12
  replace hB := hB.ext h12
  replace hUu := hUu.ext h12
  replace hVv := hVv.ext h12
  clear h12
  have bl := hB.lt
  have b0 : w12.cell? ⟨bT, 0, none⟩ = some (.string ⟨#[97]⟩) := hB.cell 0
  go_wp2_with (first | (refine wpList_load_row_g (by kernel_rfl) 33 _ rfl bA rfl _ _ _ _ hA Tryz.underlying33 rfl (by kernel_rfl) ?_))
  refine (CA.out K _ _ _ hE hK (t0.out _) k3.out).mono ?_; rintro e_ w13 ⟨rfl, h13⟩
  replace hE := hE.trans h13
  replace hA := hA.ext h13
  replace hCv := hCv.ext h13
  replace hB := hB.ext h13
  replace hUu := hUu.ext h13
  replace hVv := hVv.ext h13
  clear h13
  go_wp2
  go_ret
  exact ⟨by simp, hE⟩
end Go.Proofs.YtefjdmjkofaajaaGreatDoor
