/- Texts of complex numbers and their reading back; small contracts. -/
import Derived.Test.YtkemghecglbleaaGreatDoorSk
import Derived.Test.YtkemghecglbleaaGreatDoorGu
import Derived.Test.YtkemghecglbleaaGreatDoorYb
import Derived.Test.YtkemghecglbleaaGreatDoorIc
namespace Go.Proofs.YtkemghecglbleaaGreatDoor
set_option maxRecDepth 100000
set_option linter.unusedVariables false
open Go.Lib Go.RowKit
def hexZ1 (z : Nat × Nat) : List UInt8 := hexK 8 (bitsC (cn .f32 z.1)) ++ hexK 8 (bitsC (cn .f32 z.2))
def hexZ (zs : List (Nat × Nat)) : List (List UInt8) := zs.map hexZ1
def textZ (zs : List (Nat × Nat)) : ByteArray := joinB ((hexZ zs).map ofB)
theorem hexZ1_len (z : Nat × Nat) : (hexZ1 z).length = 16 := by unfold hexZ1; rw [List.length_append, hexK_len, hexK_len]
theorem hexZ_size (zs : List (Nat × Nat)) (h : zs ≠ []) : (Lib.join (hexZ zs) [44]).length + 1 = 17 * zs.length := by
  rw [join_len8 16 (hexZ zs) (fun y hy => by obtain ⟨x, _, rfl⟩ := List.mem_map.1 hy; exact hexZ1_len _) (by simpa [hexZ] using h)]
  simp [hexZ]
theorem hexZ_data (zs : List (Nat × Nat)) : ((hexZ zs).map ofB).map (·.data.toList) = hexZ zs := by
  rw [List.map_map]
  conv => rhs; rw [← List.map_id (hexZ zs)]
  rfl
theorem hexZ_step (zs : List (Nat × Nat)) (k : Nat) (h : k < zs.length) : (hexZ (zs.take (k + 1))).map ofB = (hexZ (zs.take k)).map ofB ++ [ofB (hexZ1 (zs.getD k (0, 0)))] := by
  have e : zs.take (k + 1) = zs.take k ++ [zs.getD k (0, 0)] := by rw [List.take_add_one, List.getD_eq_getElem?_getD, List.getElem?_eq_getElem h]; rfl
  rw [e]
  simp [hexZ]
theorem hexZ_len (zs : List (Nat × Nat)) : ((hexZ zs).map ofB).length = zs.length := by simp [hexZ]
theorem ofB_cat (a b : List UInt8) : ofB a ++ ofB b = ofB (a ++ b) := by
  simp [ofB]
  rfl
set_option maxHeartbeats 2000000 in
theorem impl_ComplexText (a : Option Addr) (cap : Nat) (zs : List (Nat × Nat)) (hw : ∀ j, j < zs.length → ltZ (zs.getD j (0, 0))) (hl : zs.length ≤ 256) (w : World) (hs : Zs w a zs) (h16 : Db16 w) :
    Calls Tryz.prog 16 #[.slice a zs.length cap] w (RetB (.tuple #[.string (textZ zs), .bool true]) w) := by
  have HS := Lib.hid hs
  have HW := Lib.hid hw
  have H6 := Lib.hid h16
  have O0 := Lib.hid (Ows_empty w w.heap.size (Nat.le_refl _))
  have hl2 : ¬ (256 < (zs.length : Int)) := by omega
  clear hs hw h16
  go_enter Tryz.func16, Tryz.ntmps16
  go_wp2
  go_loopw [4, 6, 13] (fun v n i wr => ∃ (k : Nat), k ≤ zs.length ∧ i = .int .i64 (k : Nat) ∧ Hid (Ows wr w.heap.size v ((hexZ (zs.take k)).map ofB)) ∧ Hid (Below w.heap.size w wr)) (fun _ _ i _ => zs.length - (Lib.intOf i).toNat)
  case atStart => exact ⟨0, Nat.zero_le _, rfl, O0.out, (Below.refl _ _).alloc (Nat.le_refl _) _⟩
  case round =>
    clear O0
    obtain ⟨k, hk, rfl, hO, hB⟩ := hrel
    by_cases hlt : k < zs.length
    · obtain ⟨b, rfl, r1⟩ := (HS.out.below hB.out).at (k := k) hlt
      have C1 := Lib.hid (fun w h => impl_hexOf (zs.getD k (0, 0)).1 (HW.out k hlt).1 w h)
      have C2 := Lib.hid (fun w h => impl_hexOf (zs.getD k (0, 0)).2 (HW.out k hlt).2 w h)
      have ST := Lib.hid (hexZ_step zs k hlt)
      have CAT := Lib.hid (ofB_cat (hexK 8 (bitsC (cn .f32 (zs.getD k (0, 0)).1))) (hexK 8 (bitsC (cn .f32 (zs.getD k (0, 0)).2))))
      rw [show hexK 8 (bitsC (cn .f32 (zs.getD k (0, 0)).1)) ++ hexK 8 (bitsC (cn .f32 (zs.getD k (0, 0)).2)) = hexZ1 (zs.getD k (0, 0)) from rfl] at CAT
      rw [show cval (zs.getD k (0, 0)) = .complex .f32 (zs.getD k (0, 0)).1 (zs.getD k (0, 0)).2 from rfl] at r1
      have z1 : (ofB (hexK 8 (bitsC (cn .f32 (zs.getD k (0, 0)).1)))).size = 8 := by rw [ofB_size, hexK_len]
      have z2 : (ofB (hexK 8 (bitsC (cn .f32 (zs.getD k (0, 0)).2)))).size = 8 := by rw [ofB_size, hexK_len]
      generalize ofB (hexK 8 (bitsC (cn .f32 (zs.getD k (0, 0)).1))) = t1 at *
      generalize ofB (hexK 8 (bitsC (cn .f32 (zs.getD k (0, 0)).2))) = t2 at *
      generalize ofB (hexZ1 (zs.getD k (0, 0))) = t3 at *
      generalize (zs.getD k (0, 0)).1 = x at *
      generalize (zs.getD k (0, 0)).2 = y at *
      have s1 : (0 : Int) ≤ (k : Nat) := by omega
      have s2 : (k : Int) < (zs.length : Nat) := by omega
      go_wp2_with fail
      refine (C1.out _ (H6.out.below hB.out)).mono ?_
      rintro _ w2 ⟨rfl, hB2⟩
      have B2 := Lib.hid (hB.out.trans (hB2.mono hB.out.size))
      have O2 := Lib.hid (hO.out.below hB2)
      clear hB2 r1 C1
      go_wp2_with fail
      refine (C2.out _ (H6.out.below B2.out)).mono ?_
      rintro _ w3 ⟨rfl, hB3⟩
      have B3 := Lib.hid (B2.out.trans (hB3.mono B2.out.size))
      have O3 := Lib.hid (O2.out.below hB3)
      clear hB3 C2
      obtain ⟨v2, w4, hrun, hO2, hG⟩ := run_pushS w3 w.heap.size _ _ (t1 ++ t2) O3.out B3.out.size (by rw [hexZ_len, List.length_take]; omega) 60
      have H3 := Lib.hid (And.intro hO2 (B3.out.trans hG))
      clear hO2 hG
      go_wp2_with (at_builtin; refine Lib.wpList_append_run _ rfl (.tmp 17) (.tmp 25) 60 60 rfl _ _ rfl rfl _ _ hrun ?_)
      go_roundw
      case rel =>
        refine ⟨k + 1, by omega, by go_num, ?_, H3.out.2⟩
        show Ows _ _ _ ((hexZ (zs.take (k + 1))).map ofB)
        rw [ST.out, ← CAT.out]
        exact H3.out.1
      case measure => simp [Lib.intOf]; omega
    · obtain rfl : k = zs.length := by omega
      have O2 := Lib.hid (show Ows _ _ _ ((hexZ zs).map ofB) by have := hO.out; rwa [List.take_length] at this)
      have J := Lib.hid (show (Lib.join (((hexZ zs).map ofB).map (·.data.toList)) [44]).length ≤ 140737488355328 by
        rw [hexZ_data]
        by_cases h0 : zs = []
        · subst h0; simp [hexZ, Lib.join]
        · have := hexZ_size zs h0
          omega)
      clear hO
      go_wp2_with (go_at_call 36; refine (impl_listOrNone _ ((hexZ zs).map ofB) w.heap.size (by rw [hexZ_len]; omega) J.out _ O2.out).mono ?_; rintro _ w2 ⟨rfl, hB2⟩; have B2 := Lib.hid (hB.out.trans (hB2.mono hB.out.size)); clear hB2)
      go_ret2
      exact ⟨rfl, B2.out⟩
/-! read back -/
def backZ (zs : List (Nat × Nat)) : List (Nat × Nat) := zs.map fun z => (bitsC (cn .f32 z.1), bitsC (cn .f32 z.2))
theorem digC_hex (z : Nat × Nat) (h : ltZ z) : digC (ofB (hexZ1 z)) = some (bitsC (cn .f32 z.1), bitsC (cn .f32 z.2)) := by
  have e1 := canon_bits z.1 h.1
  have e2 := canon_bits z.2 h.2
  have l1 := hexK_len 8 (bitsC (cn .f32 z.1))
  have l2 := hexK_len 8 (bitsC (cn .f32 z.2))
  have hs : (ofB (hexZ1 z)).size = 16 := by rw [ofB_size, hexZ1_len]
  refine digC_some hs ?_ ?_
  · have : ((ofB (hexZ1 z)).extract 0 8).data.toList = hexK 8 (bitsC (cn .f32 z.1)) := by
      rw [ByteArray.data_extract, Array.toList_extract]
      show List.extract (hexZ1 z) 0 8 = _
      rw [List.extract_eq_take_drop, List.drop_zero, hexZ1, List.take_append_of_le_length (by omega), List.take_of_length_le (by omega)]
    rw [this]
    exact digS_hex _ e1.1 e1.2.1
  · have : ((ofB (hexZ1 z)).extract 8 (ofB (hexZ1 z)).size).data.toList = hexK 8 (bitsC (cn .f32 z.2)) := by
      rw [hs, ByteArray.data_extract, Array.toList_extract]
      show List.extract (hexZ1 z) 8 16 = _
      rw [List.extract_eq_take_drop, hexZ1, List.drop_append_of_le_length (by omega), List.drop_of_length_le (by omega), List.nil_append, List.take_of_length_le (by omega)]
    rw [this]
    exact digS_hex _ e2.1 e2.2.1
theorem digz_hex : ∀ zs : List (Nat × Nat), allZ ltZ zs → digz ((hexZ zs).map ofB) = some (backZ zs)
  | [], _ => rfl
  | z :: r, h => by
    show digz (ofB (hexZ1 z) :: (hexZ r).map ofB) = _
    rw [digz_cons, digC_hex z (h z (by simp)), digz_hex r (fun y hy => h y (List.mem_cons_of_mem _ hy))]
    rfl
theorem hexZ1_mem (z : Nat × Nat) (c : UInt8) (h : c ∈ hexZ1 z) : c ≠ 44 ∧ c ≠ 110 := by
  rcases List.mem_append.1 h with q | q
  · exact hexK_mem 8 _ c q
  · exact hexK_mem 8 _ c q
theorem parts_textZ (zs : List (Nat × Nat)) : partsD (textZ zs) = (hexZ zs).map ofB := by
  unfold textZ joinB
  by_cases h0 : zs = []
  · subst h0; rfl
  · have hne : hexZ zs ≠ [] := by simpa [hexZ] using h0
    rw [if_neg (by simpa using hne), hexZ_data]
    unfold partsD
    have hd : (ofB (Lib.join (hexZ zs) [44])).data.toList = Lib.join (hexZ zs) [44] := rfl
    rw [hd, if_neg]
    · unfold cutB
      rw [hd, cut_join _ hne (fun l hl => by
        obtain ⟨x, _, rfl⟩ := List.mem_map.1 hl
        exact fun q => (hexZ1_mem _ _ q).1 rfl)]
    · intro q
      obtain ⟨x, r, e⟩ : ∃ x r, zs = x :: r := by
        cases zs with
        | nil => exact absurd rfl h0
        | cons x r => exact ⟨x, r, rfl⟩
      subst e
      have hl := hexZ1_len x
      have : ∃ t, Lib.join (hexZ (x :: r)) [44] = hexZ1 x ++ t := by
        cases r with
        | nil => exact ⟨[], by simp [hexZ, Lib.join]⟩
        | cons y r' => exact ⟨_, join_cons2 _ _ _⟩
      obtain ⟨t, ht⟩ := this
      rw [ht] at q
      cases hh : hexZ1 x with
      | nil => rw [hh] at hl; cases hl
      | cons c l =>
        rw [hh, List.cons_append] at q
        injection q with q1 _
        exact (hexZ1_mem x c (by rw [hh]; simp)).2 q1
theorem read_textZ (zs : List (Nat × Nat)) (hl : zs.length ≤ 256) (h : allZ ltZ zs) : readC (textZ zs) = (backZ zs, true) := by
  unfold readC
  rw [parts_textZ, if_neg (by simp [hexZ]; omega), digz_hex zs h]
theorem textZ_size (zs : List (Nat × Nat)) (hl : zs.length ≤ 256) : (textZ zs).size ≤ 1048576 := by
  by_cases h0 : zs = []
  · subst h0; decide
  · have := hexZ_size zs h0
    unfold textZ joinB
    rw [if_neg (by simpa [hexZ] using h0), hexZ_data, ofB_size]
    omega
theorem backZ_get (zs : List (Nat × Nat)) (k : Nat) (h : k < zs.length) : (backZ zs).getD k (0, 0) = (bitsC (cn .f32 (zs.getD k (0, 0)).1), bitsC (cn .f32 (zs.getD k (0, 0)).2)) := by
  unfold backZ
  simp [h]
/-! comparisons -/
theorem spec_same_trueI (a b c d : Nat) (ha : a < 4294967296) (hb : b < 4294967296) (hc : c < 4294967296) (hd : d < 4294967296) (h1 : cn .f32 a = cn .f32 c) (h2 : cn .f32 b = cn .f32 d) (w : World) :
    Calls Tryz.prog 62 #[.complex .f32 a b, .complex .f32 c d] w (RetV (.bool true) w) := by
  have C1 := Lib.hid (fun w => (show Calls Tryz.prog 31 #[.float .f32 a, .float .f32 c] w (RetV (.bool true) w) by
    have := spec_l01Same a c ha hc w
    rwa [decide_eq_true h1] at this))
  have C2 := Lib.hid (fun w => (show Calls Tryz.prog 31 #[.float .f32 b, .float .f32 d] w (RetV (.bool true) w) by
    have := spec_l01Same b d hb hd w
    rwa [decide_eq_true h2] at this))
  clear h1 h2
  go_enter Tryz.func62, Tryz.ntmps62
  go_wp2_with fail
  refine (C1.out _).mono ?_
  rintro _ _ ⟨n, rfl, rfl⟩
  go_wp2_with fail
  refine (C2.out _).mono ?_
  rintro _ _ ⟨n2, rfl, rfl⟩
  go_wp2
  go_ret
  exact RetV.mk rfl
theorem spec_SameC_true (a b c d : Nat) (ha : a < 4294967296) (hb : b < 4294967296) (hc : c < 4294967296) (hd : d < 4294967296) (h1 : cn .f32 a = cn .f32 c) (h2 : cn .f32 b = cn .f32 d) (w : World) :
    Calls Tryz.prog 47 #[.complex .f32 a b, .complex .f32 c d] w (RetV (.bool true) w) := by
  have C := Lib.hid (spec_same_trueI a b c d ha hb hc hd h1 h2)
  clear h1 h2
  go_enter Tryz.func47, Tryz.ntmps47
  go_wp2_with fail
  refine (C.out _).mono ?_
  rintro _ _ ⟨n, rfl, rfl⟩
  go_wp2
  go_ret
  exact RetV.mk rfl
theorem impl_SameC_true (a b c d : Nat) (ha : a < 4294967296) (hb : b < 4294967296) (hc : c < 4294967296) (hd : d < 4294967296) (h1 : cn .f32 a = cn .f32 c) (h2 : cn .f32 b = cn .f32 d) (w : World) :
    Calls Tryz.prog 23 #[.complex .f32 a b, .complex .f32 c d] w (RetV (.bool true) w) := by
  have C1 := Lib.hid (fun w => (show Calls Tryz.prog 48 #[.float .f32 a, .float .f32 c] w (RetV (.bool true) w) by
    have := impl_SameNumber a c ha hc w
    rwa [decide_eq_true h1] at this))
  have C2 := Lib.hid (fun w => (show Calls Tryz.prog 48 #[.float .f32 b, .float .f32 d] w (RetV (.bool true) w) by
    have := impl_SameNumber b d hb hd w
    rwa [decide_eq_true h2] at this))
  clear h1 h2
  go_enter Tryz.func23, Tryz.ntmps23
  go_wp2_with fail
  refine (C1.out _).mono ?_
  rintro _ _ ⟨n, rfl, rfl⟩
  go_wp2_with fail
  refine (C2.out _).mono ?_
  rintro _ _ ⟨n2, rfl, rfl⟩
  go_wp2
  go_ret
  exact RetV.mk rfl
theorem impl_NarrowI (r s : Nat) (hf : Fits .f64 .f32 (cn .f64 r)) (hg : Fits .f64 .f32 (cn .f64 s)) (w : World) : Calls Tryz.prog 24 #[.complex .f64 r s] w (RetC .f32 (cconv .f64 .f32 (cn .f64 r)) (cconv .f64 .f32 (cn .f64 s)) w) := by
  have HF := Lib.hid hf
  have HG := Lib.hid hg
  clear hf hg
  go_enter Tryz.func24, Tryz.ntmps24
  go_wp2_with (first | ((with_reducible refine up_down _ _ HF.out ?_); intro q nd hq) | ((with_reducible refine up_down _ _ HG.out ?_); intro q2 nd2 hq2))
  go_ret
  exact RetC.mk hq hq2
theorem Fs_twoI (w : World) (x y : Nat) (T : TypeId) : Fs (w.alloc (.cells #[.float .f32 x, .float .f32 y] T)) (some ⟨w.heap.size, 0, none⟩) [x, y] := by
  refine .inr ⟨w.heap.size, 0, rfl, by simp, fun j hj => ?_⟩
  have : j = 0 ∨ j = 1 := by simp at hj; omega
  rcases this with rfl | rfl <;> simp
theorem impl_FiniteC (x y : Nat) (w : World) : Calls Tryz.prog 25 #[.complex .f32 x y] w (RetB (.bool (isFin (cn .f32 x) && isFin (cn .f32 y))) w) := by
  have HF := Lib.hid (show allFin [x, y] = (isFin (cn .f32 x) && isFin (cn .f32 y)) by simp [allFin])
  go_enter Tryz.func25, Tryz.ntmps25
  go_wp2_with (go_at_call 49; refine (impl_areFinite (some ⟨w.heap.size, 0, none⟩) 2 [x, y] _ (Fs_twoI w x y _) (by simp)).mono ?_; rw [HF.out]; rintro _ _ ⟨nd, rfl, rfl⟩)
  go_ret
  exact ⟨rfl, below_drewN' ((Below.refl _ _).alloc (Nat.le_refl _) _) _⟩
theorem conj_back (y : Nat) (hy : y < 4294967296) : Op.negFloat .f32 (Op.negFloat .f32 y) = y := by
  have e := neg32 y hy
  by_cases h : 2147483648 ≤ y
  · rw [if_pos h] at e
    rw [e, neg32 _ (by omega), if_neg (by omega)]; omega
  · rw [if_neg h] at e
    rw [e, neg32 _ (by omega), if_pos (by omega)]; omega
set_option maxHeartbeats 4000000 in
theorem laws_b10SameI (a b : Option Addr) (cap cap2 : Nat) (zs ys : List (Nat × Nat)) (w : World) (hs : Zs w a ys) (ht : Zs w b zs) (hl : ys.length = zs.length) (hn : zs.length ≤ 256) (h1 : allZ ltZ zs) (h2 : ys = backZ zs) :
    Calls Tryz.prog 22 #[.slice a zs.length cap, .slice b zs.length cap2] w (RetV (.bool true) w) := by
  have HS := Lib.hid hs
  have HT := Lib.hid ht
  have HL := Lib.hid hl
  have H1 := Lib.hid h1
  have H2 := Lib.hid h2
  clear hs ht hl h1 h2
  go_enter Tryz.func22, Tryz.ntmps22
  go_wp2
  go_loopw [5, 13] (fun ix i wr => ∃ (k : Nat), k ≤ zs.length ∧ i = .int .i64 (k : Nat) ∧ Hid (Dr w wr)) (fun _ i _ => zs.length - (Lib.intOf i).toNat)
  case atStart => exact ⟨0, Nat.zero_le _, rfl, 0, rfl⟩
  case round =>
    obtain ⟨k, hk, rfl, hD⟩ := hrel
    by_cases hlt : k < zs.length
    · obtain ⟨b1, rfl, hc1⟩ := HS.out.at (k := k) (by rw [HL.out]; exact hlt)
      obtain ⟨b2, rfl, hc2⟩ := HT.out.at (k := k) hlt
      have l1 := H1.out (zs.getD k (0, 0)) (by rw [List.getD_eq_getElem?_getD, List.getElem?_eq_getElem hlt]; exact List.getElem_mem hlt)
      rw [H2.out, backZ_get zs k hlt] at hc1
      have r1 : wr.cell? ⟨b1, k, none⟩ = some (.complex .f32 (bitsC (cn .f32 (zs.getD k (0, 0)).1)) (bitsC (cn .f32 (zs.getD k (0, 0)).2))) := by
        obtain ⟨nq, e⟩ := hD.out
        rw [e]; exact hc1
      have r2 : wr.cell? ⟨b2, k, none⟩ = some (.complex .f32 (zs.getD k (0, 0)).1 (zs.getD k (0, 0)).2) := by
        obtain ⟨nq, e⟩ := hD.out
        rw [e]; exact hc2
      obtain ⟨p1, _, p3⟩ := canon_bits _ l1.1
      obtain ⟨q1, _, q3⟩ := canon_bits _ l1.2
      have SQ := Lib.hid (fun w => spec_SameC_true _ _ _ _ p1 q1 l1.1 l1.2 p3 q3 w)
      have hki : (k : Int) < (zs.length : Nat) := by omega
      have hk0 : (0 : Int) ≤ (k : Nat) := by omega
      clear hc1 hc2 l1 p1 p3 q1 q3
      generalize bitsC (cn .f32 (zs.getD k (0, 0)).1) = x5 at *
      generalize bitsC (cn .f32 (zs.getD k (0, 0)).2) = y5 at *
      generalize (zs.getD k (0, 0)).1 = x3 at *
      generalize (zs.getD k (0, 0)).2 = y3 at *
      go_wp2
      go_quiet ((go_at_call 47; refine Calls.quiet_of ((SQ.out _).mono RetV.quiet)))
      go_wp2
      go_roundw
      case rel => exact ⟨k + 1, by omega, by go_num, Dr.drewN hD.out _⟩
      case measure => simp [Lib.intOf]; omega
    · obtain rfl : k = zs.length := by omega
      obtain ⟨nq, rfl⟩ := hD.out
      go_wp2
      go_ret
      exact RetV.mk rfl
end Go.Proofs.YtkemghecglbleaaGreatDoor
