/- What BoxLevels gives on both sides. -/
import Derived.Test.YtidnhbengmjpkaaSw
namespace Go.Proofs.Ytidnhbengmjpkaa
set_option maxRecDepth 100000
set_option linter.unusedVariables false
open Go.RowKit

/-- a number of rows times pi -/
def piE (i : Nat) : Nat := (cop .mul .f32 (some (floatOfInt .f32 ((i : Int) + 1))) (some 1078530011)).getD 0
theorem pi_tab : ∀ i : Fin 49, cop .mul .f32 (some (floatOfInt .f32 ((i.val : Int) + 1))) (some 1078530011) = some (piE i.val) ∧ piE i.val < 2139095040 := by decide +kernel
/-- a quotient by a finite number that is not zero is a number -/
theorem quo_num {x y : Nat} (hx : x < 2139095040) (hy0 : 0 < y) (hy : y < 2139095040) : ∃ r, cop .quo .f32 (some x) (some y) = some r := by
  obtain ⟨m, e, hd, _⟩ := read_num .f32 x (by rw [f32_sign]; omega) (by rw [f32_sign, f32_inf, Nat.mod_eq_of_lt (by omega)]; exact hx)
  obtain ⟨n, j, hq, hv⟩ := read_num .f32 y (by rw [f32_sign]; omega) (by rw [f32_sign, f32_inf, Nat.mod_eq_of_lt (by omega)]; exact hy)
  have hn : n ≠ 0 := by
    intro q
    subst q
    rw [f32_sign, Nat.mod_eq_of_lt (by omega), Nat.zero_mul] at hv
    have h1 := rval_lt FloatKind.f32.format.binade (by decide) hy0
    rw [rval_zero _ (by decide)] at h1
    omega
  have hu : FloatKind.f32.format.div x y = ((FloatKind.f32.decode x).quotient (FloatKind.f32.format.fractionBits + 2) (FloatKind.f32.decode y)).map FloatKind.f32.format.write := rfl
  show ∃ r, FloatKind.f32.format.div x y = some r
  rw [hu, hd, hq]
  simp only [Ieee.Datum.quotient, if_neg hn]
  exact ⟨_, rfl⟩
/-- the square of a number is a number -/
theorem sq_num {x : Nat} (c : cn .f32 x = some x) : ∃ r, cop .mul .f32 (some x) (some x) = some r := by
  have hu : FloatKind.f32.format.mul x x = ((FloatKind.f32.decode x).product (FloatKind.f32.decode x)).map FloatKind.f32.format.write := rfl
  show ∃ r, FloatKind.f32.format.mul x x = some r
  rw [hu]
  unfold cn at c
  cases hd : FloatKind.f32.decode x with
  | nan g t => rw [hd] at c; cases c
  | infinity g => exact ⟨_, rfl⟩
  | number g m e => exact ⟨_, rfl⟩
def bxQ (width i : Nat) : Nat := (cop .quo .f32 (some (piE i)) (some width)).getD 0
def bxE (width i : Nat) : Nat := (cop .mul .f32 (some (bxQ width i)) (some (bxQ width i))).getD 0
def bxL (width n : Nat) : List Nat := (List.range n).map (bxE width)
theorem bxL_snoc (width n : Nat) : bxL width (n + 1) = bxL width n ++ [bxE width n] := by unfold bxL; rw [List.range_succ, List.map_append]; rfl
theorem bxL_len (width n : Nat) : (bxL width n).length = n := by unfold bxL; simp
theorem run_pi {i : Nat} (hi : i < 49) (t : TypeId) (w : World) :
    (binOp .mul t (.float .f32 (floatOfInt .f32 ((i : Int) + 1))) (.float .f32 1078530011)).run Try.prog w = .ok (.float .f32 (piE i)) w :=
  run_float_arith w .mul t .f32 _ _ _ (pi_tab ⟨i, hi⟩).1
theorem quo_is {width i : Nat} (h0 : 0 < width) (hr : width < 2139095040) (hi : i < 49) : cop .quo .f32 (some (piE i)) (some width) = some (bxQ width i) := by
  obtain ⟨r, h⟩ := quo_num (pi_tab ⟨i, hi⟩).2 h0 hr
  dsimp only at h
  unfold bxQ; rw [h]; rfl
theorem run_bxQ {width i : Nat} (h0 : 0 < width) (hr : width < 2139095040) (hi : i < 49) (t : TypeId) (w : World) :
    (binOp .quo t (.float .f32 (piE i)) (.float .f32 width)).run Try.prog w = .ok (.float .f32 (bxQ width i)) w :=
  run_float_arith w .quo t .f32 _ _ _ (quo_is h0 hr hi)
theorem run_bxE {width i : Nat} (h0 : 0 < width) (hr : width < 2139095040) (hi : i < 49) (t : TypeId) (w : World) :
    (binOp .mul t (.float .f32 (bxQ width i)) (.float .f32 (bxQ width i))).run Try.prog w = .ok (.float .f32 (bxE width i)) w := by
  have c : cn .f32 (bxQ width i) = some (bxQ width i) := floatBits_cn (op := .quo) (k := .f32) (quo_is h0 hr hi)
  obtain ⟨r, h⟩ := sq_num c
  have e : bxE width i = r := by unfold bxE; rw [h]; rfl
  rw [e]
  exact run_float_arith w .mul t .f32 _ _ _ h

set_option maxHeartbeats 2000000 in
theorem spec_BoxLevels_good (width : Nat) (hr : 0 < width) (hr2 : width < 2139095040) (hp : posC (cn .f32 width) = true) (count : Int) (hc : 1 ≤ count) (hc2 : count ≤ 48) (w : World) :
    Calls Try.prog 24 #[.float .f32 width, .int .i64 count] w (RetCk (bxL width count.toNat) w) := by
  have P := Lib.hid hp
  have HF := Lib.hid (show (decide (1 ≤ count) && decide (count ≤ 48)) = true by simp [hc, hc2])
  clear hp
  go_enter Try.func24, Try.ntmps24
  go_wp2_with (first | (go_at_call 40; refine (spec_l02Above _ _).mono ?_; rw [P.out]; rintro _ _ ⟨nd, rfl, rfl⟩) | (go_at_call 41; refine (spec_l02FewC _ _).mono ?_; rw [HF.out]; rintro _ _ ⟨nd, rfl, rfl⟩))
  go_loopw [6, 7, 8] (fun v i x wr => ∃ (k : Nat), (k : Int) ≤ count ∧ i = .int .i64 ((k : Int) + 1) ∧ Hid (Ow wr w.heap.size v (bxL width k) ∧ Below w.heap.size w wr)) (fun _ i _ _ => (count + 1 - intOf i).toNat)
  case atStart => exact ⟨0, by omega, rfl, Ow_empty _ _ (Nat.le_refl _), (below_drewN' (Below.refl _ _) _).alloc (Nat.le_refl _) _⟩
  case round =>
    obtain ⟨k, hk, rfl, hR⟩ := hrel
    by_cases hlt : (k : Int) + 1 ≤ count
    · have hmul := fun t w => run_pi (i := k) (by omega) t w
      have hquo := fun t w => run_bxQ (width := width) (i := k) hr hr2 (by omega) t w
      have hsq := fun t w => run_bxE (width := width) (i := k) hr hr2 (by omega) t w
      have hsz : w.heap.size ≤ wr.heap.size := hR.out.2.size
      obtain ⟨v2, w2, hrun, hO, hG⟩ := run_app32 (wr.alloc (.cells #[.float .f32 (bxE width k)] 23)) w.heap.size u6 (bxL width k) (bxE width k) wr.heap.size (hR.out.1.alloc _) (by simp [World.cell?_alloc_new]) (by simp; omega) (by rw [bxL_len]; omega) 22
      have HO := Lib.hid (And.intro hO hG)
      clear hO hG
      go_wp2_with (at_builtin; refine Lib.wpList_append_run _ rfl (.tmp 28) (.tmp 32) 22 22 rfl _ _ rfl rfl _ _ hrun ?_)
      go_roundw
      case rel =>
        refine ⟨k + 1, by omega, by go_num, by rw [bxL_snoc]; exact HO.out.1, ?_⟩
        exact (hR.out.2.alloc hsz _).grown HO.out.2 (by simp; omega) (fun j q => (World.ownsRow.lt hR.out.1 j q).1)
      case measure => simp [intOf]; omega
    · have hkc := Lib.hid (show count.toNat = k by omega)
      obtain ⟨a2, cap2, rfl, hF, _⟩ := hR.out.1.Fs
      have HFs := Lib.hid hF
      clear hF
      cases hx : allFin (bxL width k) with
      | true =>
        have H := Lib.hid hx
        clear hx
        go_wp2_with (go_at_call 42; refine (spec_l02List a2 cap2 (bxL width k) _ HFs.out (by rw [bxL_len]; omega)).mono ?_; rw [H.out, ckV_true]; rintro _ _ ⟨nd, rfl, rfl⟩)
        go_ret2
        rw [hkc.out]
        exact ⟨_, by rw [H.out]; rfl, hR.out.1.drewN _, below_drewN' hR.out.2 _⟩
      | false =>
        have H := Lib.hid hx
        clear hx
        go_wp2_with (go_at_call 42; refine (spec_l02List a2 cap2 (bxL width k) _ HFs.out (by rw [bxL_len]; omega)).mono ?_; rw [H.out, ckV_false]; rintro _ _ ⟨nd, rfl, rfl⟩)
        go_ret2
        rw [hkc.out]
        exact ⟨_, by rw [H.out]; rfl, hR.out.1.drewN _, below_drewN' hR.out.2 _⟩
set_option maxHeartbeats 2000000 in
theorem impl_BoxLevels_good (width : Nat) (hr : 0 < width) (hr2 : width < 2139095040) (hp : posC (cn .f32 width) = true) (count : Int) (hc : 1 ≤ count) (hc2 : count ≤ 48) (w : World) :
    Calls Try.prog 25 #[.float .f32 width, .int .i64 count] w (RetCk (bxL width count.toNat) w) := by
  have P := Lib.hid (show allPos [width] = true by simp [allPos, hp])
  have HF := Lib.hid (show (decide (1 ≤ count) && decide (count ≤ 48)) = true by simp [hc, hc2])
  clear hp
  go_enter Try.func25, Try.ntmps25
  go_wp2_with (first | (go_at_call 43; refine (impl_arePositive (some ⟨w.heap.size, 0, none⟩) 1 [width] _ (Fs_one' w width _) (by simp)).mono ?_; rw [P.out]; rintro _ _ ⟨nd, rfl, rfl⟩) | (go_at_call 44; refine (impl_within _ _ _ _).mono ?_; rw [HF.out]; rintro _ _ ⟨nd, rfl, rfl⟩))
  go_loopw [6, 7, 8] (fun v i x wr => ∃ (k : Nat), (k : Int) ≤ count ∧ i = .int .i64 ((k : Int) + 1) ∧ Hid (Ow wr w.heap.size v (bxL width k) ∧ Below w.heap.size w wr)) (fun _ i _ _ => (count + 1 - intOf i).toNat)
  case atStart =>
    refine ⟨0, by omega, rfl, ?_, (below_drewN' ((Below.refl _ _).alloc (Nat.le_refl _) _) _).alloc (size_up w _ _) _⟩
    exact Ow_empty2 _ _ _ (size_up w _ _) (by simp)
  case round =>
    obtain ⟨k, hk, rfl, hR⟩ := hrel
    by_cases hlt : (k : Int) + 1 ≤ count
    · have hmul := fun t w => run_pi (i := k) (by omega) t w
      have hquo := fun t w => run_bxQ (width := width) (i := k) hr hr2 (by omega) t w
      have hsq := fun t w => run_bxE (width := width) (i := k) hr hr2 (by omega) t w
      have hsz : w.heap.size ≤ wr.heap.size := hR.out.2.size
      obtain ⟨v2, w2, hrun, hO, hG⟩ := run_app32 (wr.alloc (.cells #[.float .f32 (bxE width k)] 23)) w.heap.size u6 (bxL width k) (bxE width k) wr.heap.size (hR.out.1.alloc _) (by simp [World.cell?_alloc_new]) (by simp; omega) (by rw [bxL_len]; omega) 22
      have HO := Lib.hid (And.intro hO hG)
      clear hO hG
      go_wp2_with (at_builtin; refine Lib.wpList_append_run _ rfl (.tmp 29) (.tmp 33) 22 22 rfl _ _ rfl rfl _ _ hrun ?_)
      go_roundw
      case rel =>
        refine ⟨k + 1, by omega, by go_num, by rw [bxL_snoc]; exact HO.out.1, ?_⟩
        exact (hR.out.2.alloc hsz _).grown HO.out.2 (by simp; omega) (fun j q => (World.ownsRow.lt hR.out.1 j q).1)
      case measure => simp [intOf]; omega
    · have hkc := Lib.hid (show count.toNat = k by omega)
      obtain ⟨a2, cap2, rfl, hF, _⟩ := hR.out.1.Fs
      have HFs := Lib.hid hF
      clear hF
      cases hx : allFin (bxL width k) with
      | true =>
        have H := Lib.hid hx
        clear hx
        go_wp2_with (go_at_call 45; refine (impl_checkedNumbers a2 cap2 (bxL width k) _ HFs.out (by rw [bxL_len]; omega)).mono ?_; rw [H.out, ckV_true]; rintro _ _ ⟨nd, rfl, rfl⟩)
        go_ret2
        rw [hkc.out]
        exact ⟨_, by rw [H.out]; rfl, hR.out.1.drewN _, below_drewN' hR.out.2 _⟩
      | false =>
        have H := Lib.hid hx
        clear hx
        go_wp2_with (go_at_call 45; refine (impl_checkedNumbers a2 cap2 (bxL width k) _ HFs.out (by rw [bxL_len]; omega)).mono ?_; rw [H.out, ckV_false]; rintro _ _ ⟨nd, rfl, rfl⟩)
        go_ret2
        rw [hkc.out]
        exact ⟨_, by rw [H.out]; rfl, hR.out.1.drewN _, below_drewN' hR.out.2 _⟩

set_option maxHeartbeats 1000000 in
theorem spec_BoxLevels_bad (width : Nat) (count : Int) (hb : (posC (cn .f32 width) && (decide (1 ≤ count) && decide (count ≤ 48))) = false) (w : World) :
    Calls Try.prog 24 #[.float .f32 width, .int .i64 count] w (RetV (.tuple #[.slice none 0 0, .bool false]) w) := by
  cases hp : posC (cn .f32 width) with
  | false =>
    have P := Lib.hid hp
    clear hp hb
    go_enter Try.func24, Try.ntmps24
    go_wp2_with (go_at_call 40; refine (spec_l02Above _ _).mono ?_; rw [P.out]; rintro _ _ ⟨nd, rfl, rfl⟩)
    go_ret2
    exact RetV.mk rfl
  | true =>
    have P := Lib.hid hp
    have HF := Lib.hid (show (decide (1 ≤ count) && decide (count ≤ 48)) = false by rw [hp] at hb; simpa using hb)
    clear hp hb
    go_enter Try.func24, Try.ntmps24
    go_wp2_with (first | (go_at_call 40; refine (spec_l02Above _ _).mono ?_; rw [P.out]; rintro _ _ ⟨nd, rfl, rfl⟩) | (go_at_call 41; refine (spec_l02FewC _ _).mono ?_; rw [HF.out]; rintro _ _ ⟨nd, rfl, rfl⟩))
    go_ret2
    exact RetV.mk rfl

set_option maxHeartbeats 1000000 in
theorem impl_BoxLevels_bad (width : Nat) (count : Int) (hb : (posC (cn .f32 width) && (decide (1 ≤ count) && decide (count ≤ 48))) = false) (w : World) :
    Calls Try.prog 25 #[.float .f32 width, .int .i64 count] w (RetVB (.tuple #[.slice none 0 0, .bool false]) w) := by
  cases hp : posC (cn .f32 width) with
  | false =>
    have P := Lib.hid (show allPos [width] = false by simp [allPos, hp])
    clear hp hb
    go_enter Try.func25, Try.ntmps25
    go_wp2_with (go_at_call 43; refine (impl_arePositive (some ⟨w.heap.size, 0, none⟩) 1 [width] _ (Fs_one' w width _) (by simp)).mono ?_; rw [P.out]; rintro _ _ ⟨nd, rfl, rfl⟩)
    go_ret2
    exact ⟨rfl, below_drewN' ((Below.refl _ _).alloc (Nat.le_refl _) _) _⟩
  | true =>
    have P := Lib.hid (show allPos [width] = true by simp [allPos, hp])
    have HF := Lib.hid (show (decide (1 ≤ count) && decide (count ≤ 48)) = false by rw [hp] at hb; simpa using hb)
    clear hp hb
    go_enter Try.func25, Try.ntmps25
    go_wp2_with (first | (go_at_call 43; refine (impl_arePositive (some ⟨w.heap.size, 0, none⟩) 1 [width] _ (Fs_one' w width _) (by simp)).mono ?_; rw [P.out]; rintro _ _ ⟨nd, rfl, rfl⟩) | (go_at_call 44; refine (impl_within _ _ _ _).mono ?_; rw [HF.out]; rintro _ _ ⟨nd, rfl, rfl⟩))
    go_ret2
    exact ⟨rfl, below_drewN' ((Below.refl _ _).alloc (Nat.le_refl _) _) _⟩

theorem bxE_lt (width i : Nat) : bxE width i < 4294967296 := by
  unfold bxE
  cases h : cop .mul .f32 (some (bxQ width i)) (some (bxQ width i)) with
  | none => simp
  | some r =>
    have := wf_sign (floatBits_wf (op := .mul) (k := .f32) h)
    rw [f32_sign] at this
    simp; omega

theorem bxL_mem (width n : Nat) : ∀ x ∈ bxL width n, x < 4294967296 := by
  intro x hx
  unfold bxL at hx
  obtain ⟨i, _, rfl⟩ := List.mem_map.1 hx
  exact bxE_lt width i
theorem few_words {L : List Nat} {n : Nat} (hl : L.length = n) (hn : n ≤ 48) (hx : ∀ x ∈ L, x < 4294967296) (b : Bool) : (if b then L else []).length ≤ 48 ∧ ∀ j, j < (if b then L else []).length → (if b then L else []).getD j 0 < 4294967296 := by
  cases b with
  | false => simp
  | true =>
    simp only [if_true]
    refine ⟨by omega, fun j hj => ?_⟩
    rw [List.getD_eq_getElem?_getD, List.getElem?_eq_getElem hj]
    exact hx _ (List.getElem_mem hj)
theorem boxes (width : Nat) (hr : width < 4294967296) (count : Int) : ∃ ys b, (∀ w, Calls Try.prog 24 #[.float .f32 width, .int .i64 count] w (RetOw ys b w)) ∧ (∀ w, Calls Try.prog 25 #[.float .f32 width, .int .i64 count] w (RetOw ys b w)) ∧
    ys.length ≤ 48 ∧ ∀ j, j < ys.length → ys.getD j 0 < 4294967296 := by
  cases hb : (posC (cn .f32 width) && (decide (1 ≤ count) && decide (count ≤ 48))) with
  | false => exact ⟨[], false, fun w => (spec_BoxLevels_bad width count hb w).mono fun _ _ h => h.b.ow, fun w => (impl_BoxLevels_bad width count hb w).mono fun _ _ h => h.ow, by simp, by simp⟩
  | true =>
    simp only [Bool.and_eq_true, decide_eq_true_eq] at hb
    obtain ⟨hp, h1, h2⟩ := hb
    obtain ⟨x0, x1, _⟩ := posC_some hr hp
    have hg := few_words (bxL_len width count.toNat) (by omega) (bxL_mem width count.toNat) (allFin (bxL width count.toNat))
    exact ⟨_, _, fun w => (spec_BoxLevels_good width x0 x1 hp count h1 h2 w).mono fun _ _ h => h.ow, fun w => (impl_BoxLevels_good width x0 x1 hp count h1 h2 w).mono fun _ _ h => h.ow, hg.1, hg.2⟩

set_option maxHeartbeats 4000000 in
theorem law_BoxLevels (width : Nat) (hr : width < 4294967296) (count : Int) (w : World) :
    Calls Try.prog 7 #[.float .f32 width, .int .i64 count] w (RetVB (.bool true) w) := by
  obtain ⟨ys, b, hS, hI, hl, hw⟩ := boxes width hr count
  have HS := Lib.hid hS
  have HI := Lib.hid hI
  have HW := Lib.hid hw
  clear hS hI hw
  go_enter Try.func7, Try.ntmps7
  go_wp2_with fail
  refine (HS.out _).mono ?_
  rintro _ w1 ⟨v1, rfl, hO1, hB1⟩
  obtain ⟨a1, cap1, rfl, hF1, _⟩ := hO1.Fs
  have H1 := Lib.hid (And.intro hF1 hB1)
  clear hO1 hF1 hB1
  go_wp2_with fail
  refine (HI.out _).mono ?_
  rintro _ w2 ⟨v2, rfl, hO2, hB2⟩
  obtain ⟨a2, cap2, rfl, hF2, _⟩ := hO2.Fs
  have H2 := Lib.hid (And.intro hO2 hB2)
  clear hO2 hF2 hB2
  go_wp2_with fail
  refine (laws_eqFloat32S a2 a1 cap2 cap1 ys ys _ (Ow.Fs' H2.out.1) (H1.out.1.below H2.out.2) (by omega) rfl HW.out (fun _ _ => rfl)).mono ?_
  rintro _ _ ⟨n3, rfl, rfl⟩
  go_wp2_with fail
  refine (laws_markFloat32S w1.heap.size a2 cap2 1 ys _ (Ow.drewN H2.out.1 _) (by omega) (by omega) (by omega)).mono ?_
  rintro _ w3 ⟨rfl, hO3, hB3⟩
  have H3 := Lib.hid (And.intro hO3 ((below_drewN' H2.out.2 n3).trans hB3))
  clear hO3 hB3
  go_wp2_with fail
  refine (laws_heldFloat32S a2 cap2 1 ys.length _ (Ow.Fs' H3.out.1) (by omega) (by omega) (by omega)).mono ?_
  rintro _ _ ⟨n4, rfl, rfl⟩
  go_wp2_with fail
  refine (HI.out _).mono ?_
  rintro _ w4 ⟨v4, rfl, hO4, hB4⟩
  obtain ⟨a4, cap4, rfl, hF4, _⟩ := hO4.Fs
  have H4 := Lib.hid (And.intro hF4 hB4)
  clear hO4 hF4 hB4
  go_wp2_with fail
  refine (laws_eqFloat32S a4 a1 cap4 cap1 ys ys _ H4.out.1 (((H1.out.1.below H3.out.2).drewN n4).below H4.out.2) (by omega) rfl HW.out (fun _ _ => rfl)).mono ?_
  rintro _ _ ⟨n5, rfl, rfl⟩
  go_wp2_with fail
  refine (laws_heldFloat32S a2 cap2 1 ys.length _ ((((Ow.Fs' H3.out.1).drewN n4).below H4.out.2).drewN n5) (by omega) (by omega) (by omega)).mono ?_
  rintro _ _ ⟨n6, rfl, rfl⟩
  go_wp2
  go_ret
  exact ⟨rfl, below_drewN' (H1.out.2.trans ((H3.out.2.mono H1.out.2.size).trans ((below_drewN' (Below.refl _ _) n4).trans (H4.out.2.mono (Nat.le_trans H1.out.2.size H3.out.2.size))))) _⟩
end Go.Proofs.Ytidnhbengmjpkaa
