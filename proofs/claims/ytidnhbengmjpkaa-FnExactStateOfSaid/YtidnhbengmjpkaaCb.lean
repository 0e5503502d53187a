/- What CountBelow gives on both sides. -/
import Derived.Test.YtidnhbengmjpkaaOv
import Derived.Deep.DeepCutAuto
namespace Go.Proofs.Ytidnhbengmjpkaa
set_option maxRecDepth 100000
set_option linter.unusedVariables false
open Go.RowKit

def nzC (c : Option Nat) : Option Nat := if cord .f32 c (some 0) == some .eq then some 897988541 else c
def ltC (c : Option Nat) : Bool := cord .f32 c (some 0) == some .lt
def eqC (c : Option Nat) : Bool := cord .f32 c (some 0) == some .eq
/-- ahead of the look whether it is zero -/
def cbX (xs : List Nat) (be en q : Option Nat) (k : Nat) : Option Nat :=
  if k = 0 then cop .sub .f32 (cn .f32 (xs.getD k 0)) en else cop .sub .f32 (cop .sub .f32 (cn .f32 (xs.getD k 0)) en) (cop .quo .f32 (cop .mul .f32 be be) q)
def cbQ (xs : List Nat) (be en : Option Nat) : Nat → Option Nat
  | 0 => some 0
  | k + 1 => nzC (cbX xs be en (cbQ xs be en k) k)
def cbN (xs : List Nat) (be en : Option Nat) : Nat → Int
  | 0 => 0
  | k + 1 => cbN xs be en k + (if ltC (cbQ xs be en (k + 1)) then 1 else 0)

theorem eq_is {r : Nat} {c : Option Nat} (h : FE .f32 r c) : (FloatKind.f32.format.order r 0 == some .eq) = eqC c := by rw [order_cord, h.out, cn_zero32]; rfl
theorem lt_is {r : Nat} {c : Option Nat} (h : FE .f32 r c) : (FloatKind.f32.format.order r 0 == some .lt) = ltC c := by rw [order_cord, h.out, cn_zero32]; rfl
theorem tiny_cn : cn .f32 897988541 = some 897988541 := by decide
theorem tiny_FE : FE .f32 897988541 (some 897988541) := ⟨tiny_cn, by decide⟩
theorem tiny_lt : ltC (some 897988541) = false := by decide
theorem nz_true {c : Option Nat} (h : eqC c = true) : nzC c = some 897988541 := by unfold nzC; unfold eqC at h; rw [h]; rfl
theorem nz_false {c : Option Nat} (h : eqC c = false) : nzC c = c := by unfold nzC; unfold eqC at h; rw [h]; rfl
theorem cbN_true {xs : List Nat} {be en : Option Nat} {k : Nat} (h : ltC (cbQ xs be en (k + 1)) = true) : cbN xs be en (k + 1) = cbN xs be en k + 1 := by
  show cbN xs be en k + _ = _; rw [h]; rfl
theorem cbN_false {xs : List Nat} {be en : Option Nat} {k : Nat} (h : ltC (cbQ xs be en (k + 1)) = false) : cbN xs be en (k + 1) = cbN xs be en k := by
  show cbN xs be en k + _ = _; rw [h]; simp

set_option maxHeartbeats 400000 in
theorem impl_notZero (x : Nat) (hx : x < 4294967296) (w : World) : Calls Try.prog 56 #[.float .f32 x] w (RetF .f32 (nzC (cn .f32 x)) w) := by
  have hl := eq_is (r := x) (c := cn .f32 x) ⟨rfl, by rw [f32_sign]; omega⟩
  cases h : eqC (cn .f32 x) with
  | true =>
    rw [h] at hl
    have H := Lib.hid (nz_true h)
    clear h
    go_enter Try.func56, Try.ntmps56
    go_wp2
    go_ret
    exact RetF.mk0 (tiny_FE.cast H.out.symm)
  | false =>
    rw [h] at hl
    have H := Lib.hid (nz_false h)
    clear h
    go_enter Try.func56, Try.ntmps56
    go_wp2
    go_ret
    exact RetF.mk0 ⟨H.out.symm, by rw [f32_sign]; omega⟩

/-- behind the test for zero -/
theorem cb_last {xs : List Nat} {be en : Option Nat} {k r : Nat} {m : Int} (hm : m = cbN xs be en k) (hr : FE .f32 r (cbQ xs be en (k + 1))) (b : Bool) (hb : (FloatKind.f32.format.order r 0 == some .lt) = b) :
    (if b then m + 1 else m) = cbN xs be en (k + 1) := by
  rw [lt_is hr] at hb
  cases b with
  | true => rw [cbN_true hb, hm]; rfl
  | false => rw [cbN_false hb, hm]; rfl

set_option maxHeartbeats 2000000 in
theorem spec_l02Below (a : Option Addr) (cap : Nat) (xs : List Nat) (be en : Nat) (w : World) (hs : Fs w a xs) (hl : xs.length ≤ 1048577) :
    Calls Try.prog 48 #[.slice a xs.length cap, .float .f32 be, .float .f32 en] w (RetV (.int .i64 (cbN xs (cn .f32 be) (cn .f32 en) xs.length)) w) := by
  have HS := Lib.hid hs
  clear hs
  go_enter Try.func48, Try.ntmps48
  go_wp2
  go_loopw [7, 8, 9, 10] (fun mm q i x wr => ∃ (k rq nq : Nat) (m : Int), k ≤ xs.length ∧ i = .int .i64 k ∧ q = .float .f32 rq ∧ mm = .int .i64 m ∧ 0 ≤ m ∧ m ≤ k ∧ Hid (m = cbN xs (cn .f32 be) (cn .f32 en) k) ∧ Hid (FE .f32 rq (cbQ xs (cn .f32 be) (cn .f32 en) k)) ∧ wr = w.drewN nq) (fun _ _ i _ _ => xs.length - (intOf i).toNat)
  case atStart => exact ⟨0, _, 0, 0, by omega, rfl, rfl, rfl, by omega, by omega, rfl, ⟨cn_zero32, by decide⟩, rfl⟩
  case round =>
    obtain ⟨k, rq, nq, m, hk, rfl, rfl, rfl, m0, m1, hM, hQ, rfl⟩ := hrel
    by_cases hlt : k < xs.length
    · obtain ⟨b1, off1, rfl, _, hc1⟩ := HS.out.at hlt
      have h1 := hc1 k hlt
      clear hc1
      obtain ⟨x, hx⟩ : ∃ x, x = xs.getD k 0 := ⟨_, rfl⟩
      rw [← hx] at h1
      have X := Lib.hid hx
      clear hx
      by_cases h0 : k = 0
      · have H0 := Lib.hid h0
        have h0' : ¬ (0 : Int) < (k : Int) := by omega
        clear h0
        go_upto_if 24 with (((first | with_reducible refine up_add _ _ _ _ _ ?_ | with_reducible refine up_sub _ _ _ _ _ ?_ | with_reducible refine up_mul _ _ _ _ _ ?_ | with_reducible refine up_quo _ _ _ _ _ ?_)); intro r nd hr)
        have HX := Lib.hid (show FE .f32 r (cbX xs (cn .f32 be) (cn .f32 en) (cbQ xs (cn .f32 be) (cn .f32 en) k) k) from hr.cast (by unfold cbX; rw [if_pos H0.out, X.out]))
        clear hr
        go_upto_if 33 with fail
        have hq := eq_is HX.out
        generalize (FloatKind.f32.format.order r 0 == some .eq) = b at hq ⊢
        have Q := Lib.hid hq
        clear hq
        cases b with
        | true =>
          have HY := Lib.hid (show FE .f32 897988541 (cbQ xs (cn .f32 be) (cn .f32 en) (k + 1)) from tiny_FE.cast (nz_true Q.out.symm).symm)
          go_upto_if 35 with fail
          generalize hlt2 : (FloatKind.f32.format.order 897988541 0 == some .lt) = b2
          have L := Lib.hid (cb_last hM.out HY.out b2 hlt2)
          clear hlt2
          cases b2 with
          | true =>
            go_wp2
            go_roundw
            case rel => exact ⟨k + 1, _, _, m + 1, by omega, by go_num, rfl, rfl, by omega, by omega, L.out, HY, rfl⟩
            case measure => simp [intOf]; omega
          | false =>
            go_wp2
            go_roundw
            case rel => exact ⟨k + 1, _, _, m, by omega, by go_num, rfl, rfl, by omega, by omega, L.out, HY, rfl⟩
            case measure => simp [intOf]; omega
        | false =>
          have HY := Lib.hid (show FE .f32 r (cbQ xs (cn .f32 be) (cn .f32 en) (k + 1)) from HX.out.cast (nz_false Q.out.symm).symm)
          go_upto_if 35 with fail
          generalize hlt2 : (FloatKind.f32.format.order r 0 == some .lt) = b2
          have L := Lib.hid (cb_last hM.out HY.out b2 hlt2)
          clear hlt2
          cases b2 with
          | true =>
            go_wp2
            go_roundw
            case rel => exact ⟨k + 1, _, _, m + 1, by omega, by go_num, rfl, rfl, by omega, by omega, L.out, HY, rfl⟩
            case measure => simp [intOf]; omega
          | false =>
            go_wp2
            go_roundw
            case rel => exact ⟨k + 1, _, _, m, by omega, by go_num, rfl, rfl, by omega, by omega, L.out, HY, rfl⟩
            case measure => simp [intOf]; omega
      · have H0 := Lib.hid h0
        have h0' : (0 : Int) < (k : Int) := by omega
        clear h0
        go_upto_if 24 with (((first | with_reducible refine up_add _ _ _ _ _ ?_ | with_reducible refine up_sub _ _ _ _ _ ?_ | with_reducible refine up_mul _ _ _ _ _ ?_ | with_reducible refine up_quo _ _ _ _ _ ?_)); intro r nd hr)
        have H1 := Lib.hid hr
        clear hr
        go_upto_region 9 with (((first | with_reducible refine up_add _ _ _ _ _ ?_ | with_reducible refine up_sub _ _ _ _ _ ?_ | with_reducible refine up_mul _ _ _ _ _ ?_ | with_reducible refine up_quo _ _ _ _ _ ?_)); intro r nd hr)
        have HX := Lib.hid (show FE .f32 r (cbX xs (cn .f32 be) (cn .f32 en) (cbQ xs (cn .f32 be) (cn .f32 en) k) k) by
          refine hr.cast ?_
          unfold cbX
          rw [if_neg H0.out, ← X.out]
          go_tidy
          have a1 := H1.out.out
          have a2 := hQ.out.out
          clear H1 hQ hM HS X
          simp_all [FE])
        clear hr
        go_upto_if 33 with fail
        have hq := eq_is HX.out
        generalize (FloatKind.f32.format.order r 0 == some .eq) = b at hq ⊢
        have Q := Lib.hid hq
        clear hq
        cases b with
        | true =>
          have HY := Lib.hid (show FE .f32 897988541 (cbQ xs (cn .f32 be) (cn .f32 en) (k + 1)) from tiny_FE.cast (nz_true Q.out.symm).symm)
          go_upto_if 35 with fail
          generalize hlt2 : (FloatKind.f32.format.order 897988541 0 == some .lt) = b2
          have L := Lib.hid (cb_last hM.out HY.out b2 hlt2)
          clear hlt2
          cases b2 with
          | true =>
            go_wp2
            go_roundw
            case rel => exact ⟨k + 1, _, _, m + 1, by omega, by go_num, rfl, rfl, by omega, by omega, L.out, HY, rfl⟩
            case measure => simp [intOf]; omega
          | false =>
            go_wp2
            go_roundw
            case rel => exact ⟨k + 1, _, _, m, by omega, by go_num, rfl, rfl, by omega, by omega, L.out, HY, rfl⟩
            case measure => simp [intOf]; omega
        | false =>
          have HY := Lib.hid (show FE .f32 r (cbQ xs (cn .f32 be) (cn .f32 en) (k + 1)) from HX.out.cast (nz_false Q.out.symm).symm)
          go_upto_if 35 with fail
          generalize hlt2 : (FloatKind.f32.format.order r 0 == some .lt) = b2
          have L := Lib.hid (cb_last hM.out HY.out b2 hlt2)
          clear hlt2
          cases b2 with
          | true =>
            go_wp2
            go_roundw
            case rel => exact ⟨k + 1, _, _, m + 1, by omega, by go_num, rfl, rfl, by omega, by omega, L.out, HY, rfl⟩
            case measure => simp [intOf]; omega
          | false =>
            go_wp2
            go_roundw
            case rel => exact ⟨k + 1, _, _, m, by omega, by go_num, rfl, rfl, by omega, by omega, L.out, HY, rfl⟩
            case measure => simp [intOf]; omega
    · obtain rfl : k = xs.length := by omega
      go_wp2
      go_ret
      rw [← hM.out]
      exact RetV.mk rfl

set_option maxHeartbeats 2000000 in
theorem impl_countBelow (a : Option Addr) (cap : Nat) (xs : List Nat) (be en : Nat) (w : World) (hs : Fs w a xs) (hl : xs.length ≤ 1048577) :
    Calls Try.prog 51 #[.slice a xs.length cap, .float .f32 be, .float .f32 en] w (RetV (.int .i64 (cbN xs (cn .f32 be) (cn .f32 en) xs.length)) w) := by
  have HS := Lib.hid hs
  clear hs
  go_enter Try.func51, Try.ntmps51
  go_wp2
  go_loopw [7, 8, 9, 10, 13] (fun mm q ii x i wr => ∃ (k rq nq : Nat) (m : Int), k ≤ xs.length ∧ i = .int .i64 k ∧ q = .float .f32 rq ∧ mm = .int .i64 m ∧ 0 ≤ m ∧ m ≤ k ∧ Hid (m = cbN xs (cn .f32 be) (cn .f32 en) k) ∧ Hid (FE .f32 rq (cbQ xs (cn .f32 be) (cn .f32 en) k)) ∧ wr = w.drewN nq) (fun _ _ _ _ i _ => xs.length - (intOf i).toNat)
  case atStart => exact ⟨0, _, 0, 0, by omega, rfl, rfl, rfl, by omega, by omega, rfl, ⟨cn_zero32, by decide⟩, rfl⟩
  case round =>
    obtain ⟨k, rq, nq, m, hk, rfl, rfl, rfl, m0, m1, hM, hQ, rfl⟩ := hrel
    by_cases hlt : k < xs.length
    · obtain ⟨b1, off1, rfl, _, hc1⟩ := HS.out.at hlt
      have h1 := hc1 k hlt
      clear hc1
      obtain ⟨x, hx⟩ : ∃ x, x = xs.getD k 0 := ⟨_, rfl⟩
      rw [← hx] at h1
      have X := Lib.hid hx
      clear hx
      by_cases h0 : k = 0
      · have H0 := Lib.hid h0
        have h0' : ((k : Int) == 0) = true := by simp; omega
        clear h0
        go_wp2
        with_reducible refine up_sub _ _ _ _ _ ?_
        intro r nr hr
        have HX := Lib.hid (show FE .f32 r (cbX xs (cn .f32 be) (cn .f32 en) (cbQ xs (cn .f32 be) (cn .f32 en) k) k) from hr.cast (by unfold cbX; rw [if_pos H0.out, X.out]))
        clear hr
        go_wp2_with fail
        refine (impl_notZero r (by have := HX.out.lt; rw [f32_sign] at this; omega) _).mono ?_
        rintro _ _ ⟨q2, n2, rfl, hq2, rfl⟩
        have HY := Lib.hid (show FE .f32 q2 (cbQ xs (cn .f32 be) (cn .f32 en) (k + 1)) from hq2.cast (by rw [HX.out.out]; rfl))
        clear hq2
        go_upto_if 35 with fail
        generalize hlt2 : (FloatKind.f32.format.order q2 0 == some .lt) = b2
        have L := Lib.hid (cb_last hM.out HY.out b2 hlt2)
        clear hlt2
        cases b2 with
        | true =>
          go_wp2
          go_roundw
          case rel => exact ⟨k + 1, _, _, m + 1, by omega, by go_num, rfl, rfl, by omega, by omega, L.out, HY, rfl⟩
          case measure => simp [intOf]; omega
        | false =>
          go_wp2
          go_roundw
          case rel => exact ⟨k + 1, _, _, m, by omega, by go_num, rfl, rfl, by omega, by omega, L.out, HY, rfl⟩
          case measure => simp [intOf]; omega
      · have H0 := Lib.hid h0
        have h0' : ((k : Int) == 0) = false := by simp; omega
        clear h0
        go_wp2
        with_reducible refine up_sub _ _ _ _ _ ?_
        intro r1 nr1 hr1
        go_wp2
        with_reducible refine up_mul _ _ _ _ _ ?_
        intro r2 nr2 hr2
        go_wp2
        with_reducible refine up_quo _ _ _ _ _ ?_
        intro r3 nr3 hr3
        go_wp2
        with_reducible refine up_sub _ _ _ _ _ ?_
        intro r nr hr
        have HX := Lib.hid (show FE .f32 r (cbX xs (cn .f32 be) (cn .f32 en) (cbQ xs (cn .f32 be) (cn .f32 en) k) k) by
          refine hr.cast ?_
          unfold cbX
          rw [if_neg H0.out, ← X.out, hr1.out, hr3.out, hr2.out, hQ.out.out])
        clear hr hr1 hr2 hr3
        go_wp2_with fail
        refine (impl_notZero r (by have := HX.out.lt; rw [f32_sign] at this; omega) _).mono ?_
        rintro _ _ ⟨q2, n2, rfl, hq2, rfl⟩
        have HY := Lib.hid (show FE .f32 q2 (cbQ xs (cn .f32 be) (cn .f32 en) (k + 1)) from hq2.cast (by rw [HX.out.out]; rfl))
        clear hq2
        go_upto_if 35 with fail
        generalize hlt2 : (FloatKind.f32.format.order q2 0 == some .lt) = b2
        have L := Lib.hid (cb_last hM.out HY.out b2 hlt2)
        clear hlt2
        cases b2 with
        | true =>
          go_wp2
          go_roundw
          case rel => exact ⟨k + 1, _, _, m + 1, by omega, by go_num, rfl, rfl, by omega, by omega, L.out, HY, rfl⟩
          case measure => simp [intOf]; omega
        | false =>
          go_wp2
          go_roundw
          case rel => exact ⟨k + 1, _, _, m, by omega, by go_num, rfl, rfl, by omega, by omega, L.out, HY, rfl⟩
          case measure => simp [intOf]; omega
    · obtain rfl : k = xs.length := by omega
      go_wp2
      go_ret
      rw [← hM.out]
      exact RetV.mk rfl

def rwB (xs : List Nat) (be : Option Nat) : Bool := decide (1 ≤ xs.length ∧ xs.length ≤ 48) && (allFin xs && isFin be)
def cbB (xs : List Nat) (be en : Option Nat) : Bool := rwB xs be && isFin en
def cbV (xs : List Nat) (be en : Option Nat) : Value := .tuple #[.int .i64 (if cbB xs be en then cbN xs be en xs.length else 0), .bool (cbB xs be en)]
theorem cbV_bad {xs : List Nat} {be en : Option Nat} (h : cbB xs be en = false) : cbV xs be en = .tuple #[.int .i64 0, .bool false] := by unfold cbV; rw [h]; rfl
theorem cbV_good {xs : List Nat} {be en : Option Nat} (h : cbB xs be en = true) : cbV xs be en = .tuple #[.int .i64 (cbN xs be en xs.length), .bool true] := by unfold cbV; rw [h]; rfl

set_option maxHeartbeats 1000000 in
theorem spec_l02Rows (a : Option Addr) (cap : Nat) (xs : List Nat) (be : Nat) (w : World) (hs : Fs w a xs) (hl : xs.length ≤ 1048577) :
    Calls Try.prog 46 #[.slice a xs.length cap, .float .f32 be] w (RetV (.bool (rwB xs (cn .f32 be))) w) := by
  have HS := Lib.hid hs
  clear hs
  by_cases g1 : 1 ≤ xs.length
  · by_cases g2 : xs.length ≤ 48
    · cases hx : allFin xs with
      | true =>
        have H := Lib.hid (And.intro hx (show rwB xs (cn .f32 be) = isFin (cn .f32 be) by unfold rwB; rw [decide_eq_true ⟨g1, g2⟩, hx]; rfl))
        clear hx
        go_enter Try.func46, Try.ntmps46
        go_wp2_with (first | (go_at_call 36; refine (spec_l02Finite a cap xs _ HS.out hl).mono ?_; rw [H.out.1]; rintro _ _ ⟨nd, rfl, rfl⟩) | (go_at_call 47; refine (spec_l01Finite _ _).mono ?_; rintro _ _ ⟨nd, rfl, rfl⟩))
        go_ret
        rw [H.out.2]
        exact RetV.mk rfl
      | false =>
        have H := Lib.hid (And.intro hx (show rwB xs (cn .f32 be) = false by unfold rwB; rw [hx]; simp))
        clear hx
        go_enter Try.func46, Try.ntmps46
        go_wp2_with (first | (go_at_call 36; refine (spec_l02Finite a cap xs _ HS.out hl).mono ?_; rw [H.out.1]; rintro _ _ ⟨nd, rfl, rfl⟩) | (go_at_call 47; refine (spec_l01Finite _ _).mono ?_; rintro _ _ ⟨nd, rfl, rfl⟩))
        go_ret
        rw [H.out.2]
        exact RetV.mk rfl
    · have H := Lib.hid (show rwB xs (cn .f32 be) = false by unfold rwB; rw [decide_eq_false (fun q => g2 q.2)]; rfl)
      go_enter Try.func46, Try.ntmps46
      go_wp2
      go_ret
      rw [H.out]
      exact RetV.mk0 rfl
  · have H := Lib.hid (show rwB xs (cn .f32 be) = false by unfold rwB; rw [decide_eq_false (fun q => g1 q.1)]; rfl)
    go_enter Try.func46, Try.ntmps46
    go_wp2
    go_ret
    rw [H.out]
    exact RetV.mk0 rfl

set_option maxHeartbeats 1000000 in
theorem spec_CountBelow (a : Option Addr) (cap : Nat) (xs : List Nat) (be en : Nat) (w : World) (hs : Fs w a xs) (hl : xs.length ≤ 1048577) :
    Calls Try.prog 28 #[.slice a xs.length cap, .float .f32 be, .float .f32 en] w (RetV (cbV xs (cn .f32 be) (cn .f32 en)) w) := by
  have HS := Lib.hid hs
  clear hs
  cases hr : rwB xs (cn .f32 be) with
  | true =>
    cases he : isFin (cn .f32 en) with
    | true =>
      have H := Lib.hid (And.intro hr (And.intro he (cbV_good (show cbB xs (cn .f32 be) (cn .f32 en) = true by unfold cbB; rw [hr, he]; rfl))))
      clear hr he
      go_enter Try.func28, Try.ntmps28
      go_wp2_with (first | (go_at_call 46; refine (spec_l02Rows a cap xs be _ HS.out hl).mono ?_; rw [H.out.1]; rintro _ _ ⟨nd, rfl, rfl⟩) | (go_at_call 47; refine (spec_l01Finite _ _).mono ?_; rw [H.out.2.1]; rintro _ _ ⟨nd, rfl, rfl⟩) | (go_at_call 48; refine (spec_l02Below a cap xs be en _ (HS.out.drewN _) hl).mono ?_; rintro _ _ ⟨nd, rfl, rfl⟩))
      go_ret2
      rw [H.out.2.2]
      exact RetV.mk rfl
    | false =>
      have H := Lib.hid (And.intro hr (And.intro he (cbV_bad (show cbB xs (cn .f32 be) (cn .f32 en) = false by unfold cbB; rw [he]; simp))))
      clear hr he
      go_enter Try.func28, Try.ntmps28
      go_wp2_with (first | (go_at_call 46; refine (spec_l02Rows a cap xs be _ HS.out hl).mono ?_; rw [H.out.1]; rintro _ _ ⟨nd, rfl, rfl⟩) | (go_at_call 47; refine (spec_l01Finite _ _).mono ?_; rw [H.out.2.1]; rintro _ _ ⟨nd, rfl, rfl⟩))
      go_ret2
      rw [H.out.2.2]
      exact RetV.mk rfl
  | false =>
    have H := Lib.hid (And.intro hr (cbV_bad (show cbB xs (cn .f32 be) (cn .f32 en) = false by unfold cbB; rw [hr]; rfl)))
    clear hr
    go_enter Try.func28, Try.ntmps28
    go_wp2_with (first | (go_at_call 46; refine (spec_l02Rows a cap xs be _ HS.out hl).mono ?_; rw [H.out.1]; rintro _ _ ⟨nd, rfl, rfl⟩))
    go_ret2
    rw [H.out.2]
    exact RetV.mk rfl

set_option maxHeartbeats 1000000 in
theorem impl_areRows (a : Option Addr) (cap : Nat) (xs : List Nat) (be : Nat) (w : World) (hs : Fs w a xs) (hl : xs.length ≤ 1048577) :
    Calls Try.prog 49 #[.slice a xs.length cap, .float .f32 be] w (RetV (.bool (rwB xs (cn .f32 be))) w) := by
  have HS := Lib.hid hs
  clear hs
  by_cases g1 : 1 ≤ xs.length
  · by_cases g2 : xs.length ≤ 48
    · cases hx : allFin xs with
      | true =>
        have H := Lib.hid (And.intro hx (show rwB xs (cn .f32 be) = isFin (cn .f32 be) by unfold rwB; rw [decide_eq_true ⟨g1, g2⟩, hx]; rfl))
        clear hx
        go_enter Try.func49, Try.ntmps49
        go_wp2_with (first | (go_at_call 38; refine (impl_areFinite a cap xs _ HS.out hl).mono ?_; rw [H.out.1]; rintro _ _ ⟨nd, rfl, rfl⟩) | (go_at_call 50; refine (impl_IsFinite _ _).mono ?_; rintro _ _ ⟨nd, rfl, rfl⟩))
        go_ret
        rw [H.out.2]
        exact RetV.mk rfl
      | false =>
        have H := Lib.hid (And.intro hx (show rwB xs (cn .f32 be) = false by unfold rwB; rw [hx]; simp))
        clear hx
        go_enter Try.func49, Try.ntmps49
        go_wp2_with (first | (go_at_call 38; refine (impl_areFinite a cap xs _ HS.out hl).mono ?_; rw [H.out.1]; rintro _ _ ⟨nd, rfl, rfl⟩) | (go_at_call 50; refine (impl_IsFinite _ _).mono ?_; rintro _ _ ⟨nd, rfl, rfl⟩))
        go_ret
        rw [H.out.2]
        exact RetV.mk rfl
    · have H := Lib.hid (show rwB xs (cn .f32 be) = false by unfold rwB; rw [decide_eq_false (fun q => g2 q.2)]; rfl)
      go_enter Try.func49, Try.ntmps49
      go_wp2
      go_ret
      rw [H.out]
      exact RetV.mk0 rfl
  · have H := Lib.hid (show rwB xs (cn .f32 be) = false by unfold rwB; rw [decide_eq_false (fun q => g1 q.1)]; rfl)
    go_enter Try.func49, Try.ntmps49
    go_wp2
    go_ret
    rw [H.out]
    exact RetV.mk0 rfl

set_option maxHeartbeats 1000000 in
theorem impl_CountBelow (a : Option Addr) (cap : Nat) (xs : List Nat) (be en : Nat) (w : World) (hs : Fs w a xs) (hl : xs.length ≤ 1048577) :
    Calls Try.prog 29 #[.slice a xs.length cap, .float .f32 be, .float .f32 en] w (RetV (cbV xs (cn .f32 be) (cn .f32 en)) w) := by
  have HS := Lib.hid hs
  clear hs
  cases hr : rwB xs (cn .f32 be) with
  | true =>
    cases he : isFin (cn .f32 en) with
    | true =>
      have H := Lib.hid (And.intro hr (And.intro he (cbV_good (show cbB xs (cn .f32 be) (cn .f32 en) = true by unfold cbB; rw [hr, he]; rfl))))
      clear hr he
      go_enter Try.func29, Try.ntmps29
      go_wp2_with (first | (go_at_call 49; refine (impl_areRows a cap xs be _ HS.out hl).mono ?_; rw [H.out.1]; rintro _ _ ⟨nd, rfl, rfl⟩) | (go_at_call 50; refine (impl_IsFinite _ _).mono ?_; rw [H.out.2.1]; rintro _ _ ⟨nd, rfl, rfl⟩) | (go_at_call 51; refine (impl_countBelow a cap xs be en _ (HS.out.drewN _) hl).mono ?_; rintro _ _ ⟨nd, rfl, rfl⟩))
      go_ret2
      rw [H.out.2.2]
      exact RetV.mk rfl
    | false =>
      have H := Lib.hid (And.intro hr (And.intro he (cbV_bad (show cbB xs (cn .f32 be) (cn .f32 en) = false by unfold cbB; rw [he]; simp))))
      clear hr he
      go_enter Try.func29, Try.ntmps29
      go_wp2_with (first | (go_at_call 49; refine (impl_areRows a cap xs be _ HS.out hl).mono ?_; rw [H.out.1]; rintro _ _ ⟨nd, rfl, rfl⟩) | (go_at_call 50; refine (impl_IsFinite _ _).mono ?_; rw [H.out.2.1]; rintro _ _ ⟨nd, rfl, rfl⟩))
      go_ret2
      rw [H.out.2.2]
      exact RetV.mk rfl
  | false =>
    have H := Lib.hid (And.intro hr (cbV_bad (show cbB xs (cn .f32 be) (cn .f32 en) = false by unfold cbB; rw [hr]; rfl)))
    clear hr
    go_enter Try.func29, Try.ntmps29
    go_wp2_with (first | (go_at_call 49; refine (impl_areRows a cap xs be _ HS.out hl).mono ?_; rw [H.out.1]; rintro _ _ ⟨nd, rfl, rfl⟩))
    go_ret2
    rw [H.out.2]
    exact RetV.mk rfl

set_option maxHeartbeats 2000000 in
theorem law_CountBelow (a : Option Addr) (cap : Nat) (xs : List Nat) (be en : Nat) (w : World) (hs : Fs w a xs) (hw : ∀ j, j < xs.length → xs.getD j 0 < 4294967296) (hm : xs.length ≤ maxLen) :
    Calls Try.prog 9 #[.slice a xs.length cap, .float .f32 be, .float .f32 en] w (RetVB (.bool true) w) := by
  unfold maxLen at hm
  by_cases hl : xs.length ≤ 1048576
  · have HS := Lib.hid hs
    have HW := Lib.hid hw
    obtain ⟨cnt, fl, hV⟩ : ∃ (n : Int) (b : Bool), cbV xs (cn .f32 be) (cn .f32 en) = .tuple #[.int .i64 n, .bool b] := ⟨_, _, rfl⟩
    have HV := Lib.hid hV
    clear hs hw hV
    go_enter Try.func9, Try.ntmps9
    go_wp2_with fail
    refine (laws_toFloat32S a cap xs _ HS.out hl).mono ?_
    rintro _ w1 ⟨b1, rfl, _, hR1, hB1⟩
    have H1 := Lib.hid (And.intro hR1 hB1)
    clear hR1 hB1
    go_wp2_with fail
    refine (spec_CountBelow _ xs.length xs be en _ H1.out.1.Fs (by omega)).mono ?_
    rw [HV.out]
    rintro _ _ ⟨n1, rfl, rfl⟩
    go_wp2_with fail
    refine (laws_toFloat32S a cap xs _ ((HS.out.below H1.out.2).drewN _) hl).mono ?_
    rintro _ w2 ⟨b2, rfl, _, hR2, hB2⟩
    have H2 := Lib.hid (And.intro hR2 ((below_drewN' H1.out.2 n1).trans (hB2.mono H1.out.2.size)))
    clear hR2 hB2
    go_wp2_with fail
    refine (impl_CountBelow _ xs.length xs be en _ H2.out.1.Fs (by omega)).mono ?_
    rw [HV.out]
    rintro _ _ ⟨n2, rfl, rfl⟩
    go_wp2_with fail
    refine (laws_toFloat32S a cap xs _ ((HS.out.below H2.out.2).drewN _) hl).mono ?_
    rintro _ w3 ⟨b3, rfl, _, hR3, hB3⟩
    have H3 := Lib.hid (And.intro hR3 (And.intro ((H2.out.1.drewN _).below hB3) ((below_drewN' H2.out.2 _).trans (hB3.mono H2.out.2.size))))
    clear hR3 hB3
    go_wp2_with fail
    refine (laws_eqFloat32S _ _ xs.length xs.length xs xs _ H3.out.2.1.Fs H3.out.1.Fs (by omega) rfl HW.out (fun _ _ => rfl)).mono ?_
    rintro _ _ ⟨n3, rfl, rfl⟩
    go_wp2
    go_ret
    exact ⟨rfl, below_drewN' H3.out.2.2 _⟩
  · go_enter Try.func9, Try.ntmps9
    go_wp2
    go_ret
    exact ⟨rfl, Below.refl _ _⟩
end Go.Proofs.Ytidnhbengmjpkaa
