/- What SwingLevels gives on both sides. -/
import Derived.Test.YtidnhbengmjpkaaAp
import Derived.Test.YtidnhbengmjpkaaWc
import Derived.Test.YtidnhbengmjpkaaTn
import Derived.Lib.AppendZeros
namespace Go.Proofs.Ytidnhbengmjpkaa
set_option maxRecDepth 100000
set_option linter.unusedVariables false
open Go.RowKit

theorem odd_tab : ∀ i : Fin 49, floatOfInt .f32 (2 * ((i.val : Int) + 1) - 1) < 2139095040 := by decide +kernel
/-- a product of finite numbers is a number -/
theorem mul_num {x y : Nat} (hx : x < 2139095040) (hy : y < 2139095040) : ∃ r, cop .mul .f32 (some x) (some y) = some r := by
  obtain ⟨m, e, hd, _⟩ := read_num .f32 x (by rw [f32_sign]; omega) (by rw [f32_sign, f32_inf, Nat.mod_eq_of_lt (by omega)]; exact hx)
  obtain ⟨n, j, hq, _⟩ := read_num .f32 y (by rw [f32_sign]; omega) (by rw [f32_sign, f32_inf, Nat.mod_eq_of_lt (by omega)]; exact hy)
  have hu : FloatKind.f32.format.mul x y = ((FloatKind.f32.decode x).product (FloatKind.f32.decode y)).map FloatKind.f32.format.write := rfl
  refine ⟨FloatKind.f32.format.write (.number (sgn .f32 x ^^ sgn .f32 y) (m * n) (e + j)), ?_⟩
  show FloatKind.f32.format.mul x y = _
  rw [hu, hd, hq]
  rfl
def swE (rate i : Nat) : Nat := (cop .mul .f32 (some rate) (some (floatOfInt .f32 (2 * ((i : Int) + 1) - 1)))).getD 0
def swL (rate n : Nat) : List Nat := (List.range n).map (swE rate)
theorem swL_snoc (rate n : Nat) : swL rate (n + 1) = swL rate n ++ [swE rate n] := by unfold swL; rw [List.range_succ, List.map_append]; rfl
theorem swL_len (rate n : Nat) : (swL rate n).length = n := by unfold swL; simp
theorem run_swE {rate i : Nat} (hr : rate < 2139095040) (hi : i < 49) (t : TypeId) (w : World) :
    (binOp .mul t (.float .f32 rate) (.float .f32 (floatOfInt .f32 (2 * ((i : Int) + 1) - 1)))).run Try.prog w = .ok (.float .f32 (swE rate i)) w := by
  obtain ⟨r, h⟩ := mul_num hr (odd_tab ⟨i, hi⟩)
  dsimp only at h
  have e : swE rate i = r := by unfold swE; rw [h]; rfl
  rw [e]
  exact run_float_arith w .mul t .f32 _ _ _ h

theorem Ow.drewN {w : World} {base : Nat} {v : Value} {xs : List Nat} (h : Ow w base v xs) (n : Nat) : Ow (w.drewN n) base v xs := h
theorem Ow.alloc {w : World} {base : Nat} {v : Value} {xs : List Nat} (h : Ow w base v xs) (o : Obj) : Ow (w.alloc o) base v xs := World.ownsRow.alloc h o
theorem Ow_empty (w : World) (base : Nat) (h : base ≤ w.heap.size) : Ow (w.alloc (.cells #[] 23)) base (.slice (some ⟨w.heap.size, 0, none⟩) 0 0) [] := by
  refine ⟨rfl, .inr ⟨w.heap.size, 0, #[], rfl, h, heap_alloc_new w _, Nat.le_refl _, by simp, rfl, rfl⟩⟩

/-- a checked list -/
def ckV (v : Value) (b : Bool) : Value := .tuple #[if b then v else .slice none 0 0, .bool b]
theorem ckV_true (v : Value) : ckV v true = .tuple #[v, .bool true] := rfl
theorem ckV_false (v : Value) : ckV v false = .tuple #[.slice none 0 0, .bool false] := rfl

set_option maxHeartbeats 400000 in
theorem spec_l02List (a : Option Addr) (cap : Nat) (xs : List Nat) (w : World) (hs : Fs w a xs) (hl : xs.length ≤ 1048577) :
    Calls Try.prog 42 #[.slice a xs.length cap] w (RetV (ckV (.slice a xs.length cap) (allFin xs)) w) := by
  have HS := Lib.hid hs
  clear hs
  cases hx : allFin xs with
  | true =>
    have H := Lib.hid hx
    clear hx
    rw [ckV_true]
    go_enter Try.func42, Try.ntmps42
    go_wp2_with (go_at_call 36; refine (spec_l02Finite a cap xs _ HS.out hl).mono ?_; rw [H.out]; rintro _ _ ⟨nd, rfl, rfl⟩)
    go_ret2
    exact RetV.mk rfl
  | false =>
    have H := Lib.hid hx
    clear hx
    rw [ckV_false]
    go_enter Try.func42, Try.ntmps42
    go_wp2_with (go_at_call 36; refine (spec_l02Finite a cap xs _ HS.out hl).mono ?_; rw [H.out]; rintro _ _ ⟨nd, rfl, rfl⟩)
    go_ret2
    exact RetV.mk rfl
set_option maxHeartbeats 400000 in
theorem impl_checkedNumbers (a : Option Addr) (cap : Nat) (xs : List Nat) (w : World) (hs : Fs w a xs) (hl : xs.length ≤ 1048577) :
    Calls Try.prog 45 #[.slice a xs.length cap] w (RetV (ckV (.slice a xs.length cap) (allFin xs)) w) := by
  have HS := Lib.hid hs
  clear hs
  cases hx : allFin xs with
  | true =>
    have H := Lib.hid hx
    clear hx
    rw [ckV_true]
    go_enter Try.func45, Try.ntmps45
    go_wp2_with (go_at_call 38; refine (impl_areFinite a cap xs _ HS.out hl).mono ?_; rw [H.out]; rintro _ _ ⟨nd, rfl, rfl⟩)
    go_ret2
    exact RetV.mk rfl
  | false =>
    have H := Lib.hid hx
    clear hx
    rw [ckV_false]
    go_enter Try.func45, Try.ntmps45
    go_wp2_with (go_at_call 38; refine (impl_areFinite a cap xs _ HS.out hl).mono ?_; rw [H.out]; rintro _ _ ⟨nd, rfl, rfl⟩)
    go_ret2
    exact RetV.mk rfl

/-- what a checked list is: a slice of the call's own, or nil -/
def RetCk (xs : List Nat) (w : World) (e : Ending) (w' : World) : Prop := ∃ v, e = .returned (ckV v (allFin xs)) ∧ Ow w' w.heap.size v xs ∧ Below w.heap.size w w'

set_option maxHeartbeats 400000 in
theorem spec_l02FewC (count : Int) (w : World) : Calls Try.prog 41 #[.int .i64 count] w (RetV (.bool (decide (1 ≤ count) && decide (count ≤ 48))) w) := by
  go_enter Try.func41, Try.ntmps41
  go_wp2_with (go_at_call 52; refine (spec_l00In _ _ _ _).mono ?_; rintro _ _ ⟨nd, rfl, rfl⟩)
  go_ret
  exact RetV.mk rfl

set_option maxHeartbeats 2000000 in
theorem spec_SwingLevels_good (rate : Nat) (hr : 0 < rate) (hr2 : rate < 2139095040) (hp : posC (cn .f32 rate) = true) (count : Int) (hc : 1 ≤ count) (hc2 : count ≤ 48) (w : World) :
    Calls Try.prog 20 #[.float .f32 rate, .int .i64 count] w (RetCk (swL rate count.toNat) w) := by
  have P := Lib.hid hp
  have HF := Lib.hid (show (decide (1 ≤ count) && decide (count ≤ 48)) = true by simp [hc, hc2])
  clear hp
  go_enter Try.func20, Try.ntmps20
  go_wp2_with (first | (go_at_call 40; refine (spec_l02Above _ _).mono ?_; rw [P.out]; rintro _ _ ⟨nd, rfl, rfl⟩) | (go_at_call 41; refine (spec_l02FewC _ _).mono ?_; rw [HF.out]; rintro _ _ ⟨nd, rfl, rfl⟩))
  go_loopw [6, 7] (fun v i wr => ∃ (k : Nat), (k : Int) ≤ count ∧ i = .int .i64 ((k : Int) + 1) ∧ Hid (Ow wr w.heap.size v (swL rate k) ∧ Below w.heap.size w wr)) (fun _ i _ => (count + 1 - intOf i).toNat)
  case atStart => exact ⟨0, by omega, rfl, Ow_empty _ _ (Nat.le_refl _), (below_drewN' (Below.refl _ _) _).alloc (Nat.le_refl _) _⟩
  case round =>
    obtain ⟨k, hk, rfl, hR⟩ := hrel
    by_cases hlt : (k : Int) + 1 ≤ count
    · have hmul := fun t w => run_swE (rate := rate) (i := k) hr2 (by omega) t w
      have hsz : w.heap.size ≤ wr.heap.size := hR.out.2.size
      obtain ⟨v2, w2, hrun, hO, hG⟩ := run_app32 (wr.alloc (.cells #[.float .f32 (swE rate k)] 23)) w.heap.size u6 (swL rate k) (swE rate k) wr.heap.size (hR.out.1.alloc _) (by simp [World.cell?_alloc_new]) (by simp; omega) (by rw [swL_len]; omega) 22
      have HO := Lib.hid (And.intro hO hG)
      clear hO hG
      go_wp2_with (at_builtin; refine Lib.wpList_append_run _ rfl (.tmp 22) (.tmp 29) 22 22 rfl _ _ rfl rfl _ _ hrun ?_)
      go_roundw
      case rel =>
        refine ⟨k + 1, by omega, by go_num, by rw [swL_snoc]; exact HO.out.1, ?_⟩
        exact (hR.out.2.alloc hsz _).grown HO.out.2 (by simp; omega) (fun j q => (World.ownsRow.lt hR.out.1 j q).1)
      case measure => simp [intOf]; omega
    · have hkc := Lib.hid (show count.toNat = k by omega)
      obtain ⟨a2, cap2, rfl, hF, _⟩ := hR.out.1.Fs
      have HFs := Lib.hid hF
      clear hF
      cases hx : allFin (swL rate k) with
      | true =>
        have H := Lib.hid hx
        clear hx
        go_wp2_with (go_at_call 42; refine (spec_l02List a2 cap2 (swL rate k) _ HFs.out (by rw [swL_len]; omega)).mono ?_; rw [H.out, ckV_true]; rintro _ _ ⟨nd, rfl, rfl⟩)
        go_ret2
        rw [hkc.out]
        exact ⟨_, by rw [H.out]; rfl, hR.out.1.drewN _, below_drewN' hR.out.2 _⟩
      | false =>
        have H := Lib.hid hx
        clear hx
        go_wp2_with (go_at_call 42; refine (spec_l02List a2 cap2 (swL rate k) _ HFs.out (by rw [swL_len]; omega)).mono ?_; rw [H.out, ckV_false]; rintro _ _ ⟨nd, rfl, rfl⟩)
        go_ret2
        rw [hkc.out]
        exact ⟨_, by rw [H.out]; rfl, hR.out.1.drewN _, below_drewN' hR.out.2 _⟩
theorem Ow_empty2 (w : World) (base N : Nat) (h : base ≤ w.heap.size) (hN : w.heap.size = N) : Ow (w.alloc (.cells #[] 23)) base (.slice (some ⟨N, 0, none⟩) 0 0) [] := hN ▸ Ow_empty w base h
theorem size_up (w : World) (o : Obj) (n : Nat) : w.heap.size ≤ ((w.alloc o).drewN n).heap.size := by simp
theorem Fs_one' (w : World) (x : Nat) (T : TypeId) : Fs (w.alloc (.cells #[.float .f32 x] T)) (some ⟨w.heap.size, 0, none⟩) [x] := by
  refine .inr ⟨w.heap.size, 0, rfl, by simp, fun j hj => ?_⟩
  have : j = 0 := by simpa using hj
  subst this
  simp

set_option maxHeartbeats 2000000 in
theorem impl_SwingLevels_good (rate : Nat) (hr : 0 < rate) (hr2 : rate < 2139095040) (hp : posC (cn .f32 rate) = true) (count : Int) (hc : 1 ≤ count) (hc2 : count ≤ 48) (w : World) :
    Calls Try.prog 21 #[.float .f32 rate, .int .i64 count] w (RetCk (swL rate count.toNat) w) := by
  have P := Lib.hid (show allPos [rate] = true by simp [allPos, hp])
  have HF := Lib.hid (show (decide (1 ≤ count) && decide (count ≤ 48)) = true by simp [hc, hc2])
  clear hp
  go_enter Try.func21, Try.ntmps21
  go_wp2_with (first | (go_at_call 43; refine (impl_arePositive (some ⟨w.heap.size, 0, none⟩) 1 [rate] _ (Fs_one' w rate _) (by simp)).mono ?_; rw [P.out]; rintro _ _ ⟨nd, rfl, rfl⟩) | (go_at_call 44; refine (impl_within _ _ _ _).mono ?_; rw [HF.out]; rintro _ _ ⟨nd, rfl, rfl⟩))
  go_loopw [6, 7] (fun v i wr => ∃ (k : Nat), (k : Int) ≤ count ∧ i = .int .i64 ((k : Int) + 1) ∧ Hid (Ow wr w.heap.size v (swL rate k) ∧ Below w.heap.size w wr)) (fun _ i _ => (count + 1 - intOf i).toNat)
  case atStart =>
    refine ⟨0, by omega, rfl, ?_, (below_drewN' ((Below.refl _ _).alloc (Nat.le_refl _) _) _).alloc (size_up w _ _) _⟩
    exact Ow_empty2 _ _ _ (size_up w _ _) (by simp)
  case round =>
    obtain ⟨k, hk, rfl, hR⟩ := hrel
    by_cases hlt : (k : Int) + 1 ≤ count
    · have hmul := fun t w => run_swE (rate := rate) (i := k) hr2 (by omega) t w
      have hsz : w.heap.size ≤ wr.heap.size := hR.out.2.size
      obtain ⟨v2, w2, hrun, hO, hG⟩ := run_app32 (wr.alloc (.cells #[.float .f32 (swE rate k)] 23)) w.heap.size u6 (swL rate k) (swE rate k) wr.heap.size (hR.out.1.alloc _) (by simp [World.cell?_alloc_new]) (by simp; omega) (by rw [swL_len]; omega) 22
      have HO := Lib.hid (And.intro hO hG)
      clear hO hG
      go_wp2_with (at_builtin; refine Lib.wpList_append_run _ rfl (.tmp 23) (.tmp 30) 22 22 rfl _ _ rfl rfl _ _ hrun ?_)
      go_roundw
      case rel =>
        refine ⟨k + 1, by omega, by go_num, by rw [swL_snoc]; exact HO.out.1, ?_⟩
        exact (hR.out.2.alloc hsz _).grown HO.out.2 (by simp; omega) (fun j q => (World.ownsRow.lt hR.out.1 j q).1)
      case measure => simp [intOf]; omega
    · have hkc := Lib.hid (show count.toNat = k by omega)
      obtain ⟨a2, cap2, rfl, hF, _⟩ := hR.out.1.Fs
      have HFs := Lib.hid hF
      clear hF
      cases hx : allFin (swL rate k) with
      | true =>
        have H := Lib.hid hx
        clear hx
        go_wp2_with (go_at_call 45; refine (impl_checkedNumbers a2 cap2 (swL rate k) _ HFs.out (by rw [swL_len]; omega)).mono ?_; rw [H.out, ckV_true]; rintro _ _ ⟨nd, rfl, rfl⟩)
        go_ret2
        rw [hkc.out]
        exact ⟨_, by rw [H.out]; rfl, hR.out.1.drewN _, below_drewN' hR.out.2 _⟩
      | false =>
        have H := Lib.hid hx
        clear hx
        go_wp2_with (go_at_call 45; refine (impl_checkedNumbers a2 cap2 (swL rate k) _ HFs.out (by rw [swL_len]; omega)).mono ?_; rw [H.out, ckV_false]; rintro _ _ ⟨nd, rfl, rfl⟩)
        go_ret2
        rw [hkc.out]
        exact ⟨_, by rw [H.out]; rfl, hR.out.1.drewN _, below_drewN' hR.out.2 _⟩

set_option maxHeartbeats 1000000 in
theorem spec_SwingLevels_bad (rate : Nat) (count : Int) (hb : (posC (cn .f32 rate) && (decide (1 ≤ count) && decide (count ≤ 48))) = false) (w : World) :
    Calls Try.prog 20 #[.float .f32 rate, .int .i64 count] w (RetV (.tuple #[.slice none 0 0, .bool false]) w) := by
  cases hp : posC (cn .f32 rate) with
  | false =>
    have P := Lib.hid hp
    clear hp hb
    go_enter Try.func20, Try.ntmps20
    go_wp2_with (go_at_call 40; refine (spec_l02Above _ _).mono ?_; rw [P.out]; rintro _ _ ⟨nd, rfl, rfl⟩)
    go_ret2
    exact RetV.mk rfl
  | true =>
    have P := Lib.hid hp
    have HF := Lib.hid (show (decide (1 ≤ count) && decide (count ≤ 48)) = false by rw [hp] at hb; simpa using hb)
    clear hp hb
    go_enter Try.func20, Try.ntmps20
    go_wp2_with (first | (go_at_call 40; refine (spec_l02Above _ _).mono ?_; rw [P.out]; rintro _ _ ⟨nd, rfl, rfl⟩) | (go_at_call 41; refine (spec_l02FewC _ _).mono ?_; rw [HF.out]; rintro _ _ ⟨nd, rfl, rfl⟩))
    go_ret2
    exact RetV.mk rfl

set_option maxHeartbeats 1000000 in
theorem impl_SwingLevels_bad (rate : Nat) (count : Int) (hb : (posC (cn .f32 rate) && (decide (1 ≤ count) && decide (count ≤ 48))) = false) (w : World) :
    Calls Try.prog 21 #[.float .f32 rate, .int .i64 count] w (RetVB (.tuple #[.slice none 0 0, .bool false]) w) := by
  cases hp : posC (cn .f32 rate) with
  | false =>
    have P := Lib.hid (show allPos [rate] = false by simp [allPos, hp])
    clear hp hb
    go_enter Try.func21, Try.ntmps21
    go_wp2_with (go_at_call 43; refine (impl_arePositive (some ⟨w.heap.size, 0, none⟩) 1 [rate] _ (Fs_one' w rate _) (by simp)).mono ?_; rw [P.out]; rintro _ _ ⟨nd, rfl, rfl⟩)
    go_ret2
    exact ⟨rfl, below_drewN' ((Below.refl _ _).alloc (Nat.le_refl _) _) _⟩
  | true =>
    have P := Lib.hid (show allPos [rate] = true by simp [allPos, hp])
    have HF := Lib.hid (show (decide (1 ≤ count) && decide (count ≤ 48)) = false by rw [hp] at hb; simpa using hb)
    clear hp hb
    go_enter Try.func21, Try.ntmps21
    go_wp2_with (first | (go_at_call 43; refine (impl_arePositive (some ⟨w.heap.size, 0, none⟩) 1 [rate] _ (Fs_one' w rate _) (by simp)).mono ?_; rw [P.out]; rintro _ _ ⟨nd, rfl, rfl⟩) | (go_at_call 44; refine (impl_within _ _ _ _).mono ?_; rw [HF.out]; rintro _ _ ⟨nd, rfl, rfl⟩))
    go_ret2
    exact ⟨rfl, below_drewN' ((Below.refl _ _).alloc (Nat.le_refl _) _) _⟩

/-- a result that is a slice of the call's own, and whether it counts -/
def RetOw (ys : List Nat) (b : Bool) (w : World) (e : Ending) (w' : World) : Prop := ∃ v, e = .returned (.tuple #[v, .bool b]) ∧ Ow w' w.heap.size v ys ∧ Below w.heap.size w w'
theorem Ow_nil (w : World) (base : Nat) : Ow w base (.slice none 0 0) [] := ⟨rfl, .inl ⟨rfl, rfl⟩⟩
theorem RetCk.ow {xs : List Nat} {w : World} {e : Ending} {w' : World} (h : RetCk xs w e w') : RetOw (if allFin xs then xs else []) (allFin xs) w e w' := by
  obtain ⟨v, rfl, hO, hB⟩ := h
  cases hx : allFin xs with
  | true => exact ⟨v, rfl, hO, hB⟩
  | false => exact ⟨_, rfl, Ow_nil _ _, hB⟩
theorem RetVB.ow {w : World} {e : Ending} {w' : World} (h : RetVB (.tuple #[.slice none 0 0, .bool false]) w e w') : RetOw [] false w e w' := by
  obtain ⟨rfl, hB⟩ := h
  exact ⟨_, rfl, Ow_nil _ _, hB⟩

theorem swE_lt (rate i : Nat) : swE rate i < 4294967296 := by
  unfold swE
  cases h : cop .mul .f32 (some rate) (some (floatOfInt .f32 (2 * ((i : Int) + 1) - 1))) with
  | none => simp
  | some r =>
    have := wf_sign (floatBits_wf (op := .mul) (k := .f32) h)
    rw [f32_sign] at this
    simp; omega

theorem swings (rate : Nat) (hr : rate < 4294967296) (count : Int) : ∃ ys b, (∀ w, Calls Try.prog 20 #[.float .f32 rate, .int .i64 count] w (RetOw ys b w)) ∧ (∀ w, Calls Try.prog 21 #[.float .f32 rate, .int .i64 count] w (RetOw ys b w)) ∧
    ys.length ≤ 48 ∧ ∀ j, j < ys.length → ys.getD j 0 < 4294967296 := by
  cases hb : (posC (cn .f32 rate) && (decide (1 ≤ count) && decide (count ≤ 48))) with
  | false => exact ⟨[], false, fun w => (spec_SwingLevels_bad rate count hb w).mono fun _ _ h => h.b.ow, fun w => (impl_SwingLevels_bad rate count hb w).mono fun _ _ h => h.ow, by simp, by simp⟩
  | true =>
    simp only [Bool.and_eq_true, decide_eq_true_eq] at hb
    obtain ⟨hp, h1, h2⟩ := hb
    obtain ⟨x0, x1, _⟩ := posC_some hr hp
    refine ⟨_, _, fun w => (spec_SwingLevels_good rate x0 x1 hp count h1 h2 w).mono fun _ _ h => h.ow, fun w => (impl_SwingLevels_good rate x0 x1 hp count h1 h2 w).mono fun _ _ h => h.ow, ?_, ?_⟩
    · split
      · rw [swL_len]; omega
      · simp
    · intro j hj
      split at hj
      · rename_i hx
        rw [if_pos hx]
        rw [swL_len] at hj
        unfold swL
        simp [hj]
        exact swE_lt rate j
      · simp at hj

theorem Ow.Fs' {w : World} {base : Nat} {a : Option Addr} {n cap : Nat} {xs : List Nat} (h : Ow w base (.slice a n cap) xs) : Proofs.Ytidnhbengmjpkaa.Fs w a xs := by
  obtain ⟨a2, c2, e, hF, _⟩ := h.Fs
  injection e with e1 e2 e3
  rw [e1]; exact hF

set_option maxHeartbeats 4000000 in
theorem law_SwingLevels (rate : Nat) (hr : rate < 4294967296) (count : Int) (w : World) :
    Calls Try.prog 6 #[.float .f32 rate, .int .i64 count] w (RetVB (.bool true) w) := by
  obtain ⟨ys, b, hS, hI, hl, hw⟩ := swings rate hr count
  have HS := Lib.hid hS
  have HI := Lib.hid hI
  have HW := Lib.hid hw
  clear hS hI hw
  go_enter Try.func6, Try.ntmps6
  go_wp2_with fail
  refine (HS.out _).mono ?_
  rintro _ w1 ⟨v1, rfl, hO1, hB1⟩
  obtain ⟨a1, cap1, rfl, hF1, _⟩ := hO1.Fs
  have H1 := Lib.hid (And.intro hF1 hB1)
  clear hO1 hF1 hB1
  go_wp2_with fail
  refine (HI.out _).mono ?_
  rintro _ w2 ⟨v2, rfl, hO2, hB2⟩
  obtain ⟨a2, cap2, rfl, hF2, _⟩ := hO2.Fs
  have H2 := Lib.hid (And.intro hO2 hB2)
  clear hO2 hF2 hB2
  go_wp2_with fail
  refine (laws_eqFloat32S a2 a1 cap2 cap1 ys ys _ (Ow.Fs' H2.out.1) (H1.out.1.below H2.out.2) (by omega) rfl HW.out (fun _ _ => rfl)).mono ?_
  rintro _ _ ⟨n3, rfl, rfl⟩
  go_wp2_with fail
  refine (laws_markFloat32S w1.heap.size a2 cap2 1 ys _ (Ow.drewN H2.out.1 _) (by omega) (by omega) (by omega)).mono ?_
  rintro _ w3 ⟨rfl, hO3, hB3⟩
  have H3 := Lib.hid (And.intro hO3 ((below_drewN' H2.out.2 n3).trans hB3))
  clear hO3 hB3
  go_wp2_with fail
  refine (laws_heldFloat32S a2 cap2 1 ys.length _ (Ow.Fs' H3.out.1) (by omega) (by omega) (by omega)).mono ?_
  rintro _ _ ⟨n4, rfl, rfl⟩
  go_wp2_with fail
  refine (HI.out _).mono ?_
  rintro _ w4 ⟨v4, rfl, hO4, hB4⟩
  obtain ⟨a4, cap4, rfl, hF4, _⟩ := hO4.Fs
  have H4 := Lib.hid (And.intro hF4 hB4)
  clear hO4 hF4 hB4
  go_wp2_with fail
  refine (laws_eqFloat32S a4 a1 cap4 cap1 ys ys _ H4.out.1 (((H1.out.1.below H3.out.2).drewN n4).below H4.out.2) (by omega) rfl HW.out (fun _ _ => rfl)).mono ?_
  rintro _ _ ⟨n5, rfl, rfl⟩
  go_wp2_with fail
  refine (laws_heldFloat32S a2 cap2 1 ys.length _ ((((Ow.Fs' H3.out.1).drewN n4).below H4.out.2).drewN n5) (by omega) (by omega) (by omega)).mono ?_
  rintro _ _ ⟨n6, rfl, rfl⟩
  go_wp2
  go_ret
  exact ⟨rfl, below_drewN' (H1.out.2.trans ((H3.out.2.mono H1.out.2.size).trans ((below_drewN' (Below.refl _ _) n4).trans (H4.out.2.mono (Nat.le_trans H1.out.2.size H3.out.2.size))))) _⟩
end Go.Proofs.Ytidnhbengmjpkaa
