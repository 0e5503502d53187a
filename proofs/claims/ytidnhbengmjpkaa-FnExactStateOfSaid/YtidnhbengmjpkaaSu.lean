/- What SumNumbers gives on both sides. -/
import Derived.Test.YtidnhbengmjpkaaTs
namespace Go.Proofs.Ytidnhbengmjpkaa
set_option maxRecDepth 100000
open Go.RowKit

/-! sums -/
def sumC (xs : List Nat) : Option Nat := xs.foldl (fun a x => cop .add .f32 a (cn .f32 x)) (some 0)
theorem sumC_snoc (xs : List Nat) (k : Nat) (h : k < xs.length) : sumC (xs.take (k + 1)) = cop .add .f32 (sumC (xs.take k)) (cn .f32 (xs.getD k 0)) := by
  unfold sumC
  rw [take_snocN xs k h, List.foldl_append]; rfl

set_option maxHeartbeats 1000000 in
theorem spec_l01Sum (a : Option Addr) (cap : Nat) (xs : List Nat) (w : World) (hs : Fs w a xs) (hl : xs.length ≤ 1048577) :
    Calls Try.prog 34 #[.slice a xs.length cap] w (RetF .f32 (sumC xs) w) := by
  have HS := Lib.hid hs
  clear hs
  go_enter Try.func34, Try.ntmps34
  go_wp2
  go_loopw [3, 4] (fun s i wr => ∃ k r nq : Nat, k ≤ xs.length ∧ i = .int .i64 k ∧ s = .float .f32 r ∧ Hid (FE .f32 r (sumC (xs.take k))) ∧ wr = w.drewN nq) (fun _ i _ => xs.length - (intOf i).toNat)
  case atStart => exact ⟨0, 0, 0, by omega, rfl, rfl, ⟨cn_zero32, by decide⟩, rfl⟩
  case round =>
    obtain ⟨k, r0, nq, hk, rfl, rfl, hR, rfl⟩ := hrel
    by_cases hlt : k < xs.length
    · obtain ⟨b1, off1, rfl, _, hc1⟩ := HS.out.at hlt
      have h1 := hc1 k hlt
      clear hc1
      obtain ⟨x, hx⟩ : ∃ x, x = xs.getD k 0 := ⟨_, rfl⟩
      rw [← hx] at h1
      have X := Lib.hid hx
      clear hx
      go_wp2_with (((first | with_reducible refine up_add _ _ _ _ _ ?_ | with_reducible refine up_sub _ _ _ _ _ ?_ | with_reducible refine up_mul _ _ _ _ _ ?_ | with_reducible refine up_quo _ _ _ _ _ ?_)); intro r nd hr)
      go_roundw
      case rel =>
        refine ⟨k + 1, _, _, by omega, by go_num, rfl, hr.cast ?_, rfl⟩
        rw [sumC_snoc xs k hlt, ← X.out, hR.out.out]
      case measure => simp [intOf]; omega
    · have hT := Lib.hid (show xs.take k = xs from List.take_of_length_le (by omega))
      go_wp2
      go_ret
      refine RetF.mk ?_
      have h := hR.out
      rw [hT.out] at h
      exact h

set_option maxHeartbeats 1000000 in
theorem impl_sum (a : Option Addr) (cap : Nat) (xs : List Nat) (w : World) (hs : Fs w a xs) (hl : xs.length ≤ 1048577) :
    Calls Try.prog 35 #[.slice a xs.length cap] w (RetF .f32 (sumC xs) w) := by
  have HS := Lib.hid hs
  clear hs
  go_enter Try.func35, Try.ntmps35
  go_wp2
  go_loopw [3, 5, 8] (fun s v i wr => ∃ k r nq : Nat, k ≤ xs.length ∧ i = .int .i64 k ∧ s = .float .f32 r ∧ Hid (FE .f32 r (sumC (xs.take k))) ∧ wr = w.drewN nq) (fun _ _ i _ => xs.length - (intOf i).toNat)
  case atStart => exact ⟨0, 0, 0, by omega, rfl, rfl, ⟨cn_zero32, by decide⟩, rfl⟩
  case round =>
    obtain ⟨k, r0, nq, hk, rfl, rfl, hR, rfl⟩ := hrel
    by_cases hlt : k < xs.length
    · obtain ⟨b1, off1, rfl, _, hc1⟩ := HS.out.at hlt
      have h1 := hc1 k hlt
      clear hc1
      obtain ⟨x, hx⟩ : ∃ x, x = xs.getD k 0 := ⟨_, rfl⟩
      rw [← hx] at h1
      have X := Lib.hid hx
      clear hx
      go_wp2_with (((first | with_reducible refine up_add _ _ _ _ _ ?_ | with_reducible refine up_sub _ _ _ _ _ ?_ | with_reducible refine up_mul _ _ _ _ _ ?_ | with_reducible refine up_quo _ _ _ _ _ ?_)); intro r nd hr)
      go_roundw
      case rel =>
        refine ⟨k + 1, _, _, by omega, by go_num, rfl, hr.cast ?_, rfl⟩
        rw [sumC_snoc xs k hlt, ← X.out, hR.out.out]
      case measure => simp [intOf]; omega
    · have hT := Lib.hid (show xs.take k = xs from List.take_of_length_le (by omega))
      go_wp2
      go_ret
      refine RetF.mk ?_
      have h := hR.out
      rw [hT.out] at h
      exact h

def sumR (xs : List Nat) : Option Nat := if xs.length ≤ 256 then sumC xs else some 0

set_option maxHeartbeats 400000 in
theorem spec_l01Few (a : Option Addr) (cap n : Nat) (hn : n ≤ 1048577) (w : World) :
    Calls Try.prog 32 #[.slice a n cap] w (RetV (.bool (decide (n ≤ 256))) w) := by
  go_enter Try.func32, Try.ntmps32
  go_wp2
  go_ret
  refine RetV.mk0 ?_
  show Value.bool (decide ((n : Int) ≤ 256)) = _
  congr 1
  rw [decide_eq_decide]
  omega

set_option maxHeartbeats 1000000 in
theorem spec_SumNumbers (a : Option Addr) (cap : Nat) (xs : List Nat) (w : World) (hs : Fs w a xs) (hl : xs.length ≤ 1048577) :
    Calls Try.prog 16 #[.slice a xs.length cap] w (RetFB .f32 (sumR xs) (decide (xs.length ≤ 256)) w) := by
  have HS := Lib.hid hs
  clear hs
  by_cases h : xs.length ≤ 256
  · have hd := Lib.hid (decide_eq_true h)
    have hR := Lib.hid (show sumR xs = sumC xs by unfold sumR; rw [if_pos h])
    go_enter Try.func16, Try.ntmps16
    go_wp2_with (first | (go_at_call 32; refine (spec_l01Few a cap xs.length hl _).mono ?_; rw [hd.out]; rintro _ _ ⟨nd, rfl, rfl⟩) | (go_at_call 34; refine (spec_l01Sum a cap xs _ (HS.out.drewN _) hl).mono ?_; rintro _ _ ⟨r, nd, rfl, hr, rfl⟩))
    go_ret2
    exact RetFB.mk (hr.cast hR.out.symm) hd.out.symm
  · have hd := Lib.hid (decide_eq_false h)
    have hR := Lib.hid (show sumR xs = some 0 by unfold sumR; rw [if_neg h])
    go_enter Try.func16, Try.ntmps16
    go_wp2_with (first | (go_at_call 32; refine (spec_l01Few a cap xs.length hl _).mono ?_; rw [hd.out]; rintro _ _ ⟨nd, rfl, rfl⟩))
    go_ret2
    exact RetFB.mk ⟨cn_zero32.trans hR.out.symm, by decide⟩ hd.out.symm

set_option maxHeartbeats 1000000 in
theorem impl_SumNumbers (a : Option Addr) (cap : Nat) (xs : List Nat) (w : World) (hs : Fs w a xs) (hl : xs.length ≤ 1048577) :
    Calls Try.prog 17 #[.slice a xs.length cap] w (RetFB .f32 (sumR xs) (decide (xs.length ≤ 256)) w) := by
  have HS := Lib.hid hs
  clear hs
  by_cases h : xs.length ≤ 256
  · have hd := Lib.hid (decide_eq_true h)
    have hR := Lib.hid (show sumR xs = sumC xs by unfold sumR; rw [if_pos h])
    go_enter Try.func17, Try.ntmps17
    go_wp2_with (go_at_call 35; refine (impl_sum a cap xs _ HS.out hl).mono ?_; rintro _ _ ⟨r, nd, rfl, hr, rfl⟩)
    go_ret2
    exact RetFB.mk (hr.cast hR.out.symm) hd.out.symm
  · have hd := Lib.hid (decide_eq_false h)
    have hR := Lib.hid (show sumR xs = some 0 by unfold sumR; rw [if_neg h])
    go_enter Try.func17, Try.ntmps17
    go_wp2
    go_ret2
    exact RetFB.mk0 ⟨cn_zero32.trans hR.out.symm, by decide⟩ hd.out.symm

set_option maxHeartbeats 2000000 in
theorem law_SumNumbers (a : Option Addr) (cap : Nat) (xs : List Nat) (w : World) (hs : Fs w a xs) (hw : ∀ j, j < xs.length → xs.getD j 0 < 4294967296) (hm : xs.length ≤ maxLen) :
    Calls Try.prog 4 #[.slice a xs.length cap] w (RetVB (.bool true) w) := by
  unfold maxLen at hm
  by_cases hl : xs.length ≤ 1048576
  · have HS := Lib.hid hs
    have HW := Lib.hid hw
    clear hs hw
    go_enter Try.func4, Try.ntmps4
    go_wp2_with fail
    refine (laws_toFloat32S a cap xs _ HS.out hl).mono ?_
    rintro _ w1 ⟨b1, rfl, _, hR1, hB1⟩
    have H1 := Lib.hid (And.intro hR1 hB1)
    clear hR1 hB1
    go_wp2_with fail
    refine (spec_SumNumbers _ xs.length xs _ H1.out.1.Fs (by omega)).mono ?_
    rintro _ _ ⟨r1, n1, rfl, hr1, rfl⟩
    have HR1 := Lib.hid hr1
    clear hr1
    go_wp2_with fail
    refine (laws_toFloat32S a cap xs _ ((HS.out.below H1.out.2).drewN _) hl).mono ?_
    rintro _ w2 ⟨b2, rfl, _, hR2, hB2⟩
    have H2 := Lib.hid (And.intro hR2 ((below_drewN' H1.out.2 n1).trans (hB2.mono H1.out.2.size)))
    clear hR2 hB2
    go_wp2_with fail
    refine (impl_SumNumbers _ xs.length xs _ H2.out.1.Fs (by omega)).mono ?_
    rintro _ _ ⟨r2, n2, rfl, hr2, rfl⟩
    have HR2 := Lib.hid hr2
    clear hr2
    go_wp2_with (first | ((with_reducible refine up_up _ _ ?_); intro r nd hr) | (go_at_call 14; refine (laws_sameFloat _ _ ?hs _).mono ?_; rotate_left; rintro _ _ ⟨nd, rfl, rfl⟩))
    case hs =>
      go_tidy
      have a1 := HR1.out.out
      have a2 := HR2.out.out
      clear HR1 HR2 HS H1 H2 HW
      simp_all [FE]
    refine (laws_toFloat32S a cap xs _ ((HS.out.below H2.out.2).drewN _) hl).mono ?_
    rintro _ w3 ⟨b3, rfl, _, hR3, hB3⟩
    have H3 := Lib.hid (And.intro hR3 (And.intro ((H2.out.1.drewN _).below hB3) ((below_drewN' H2.out.2 _).trans (hB3.mono H2.out.2.size))))
    clear hR3 hB3
    go_wp2_with fail
    refine (laws_eqFloat32S _ _ xs.length xs.length xs xs _ H3.out.2.1.Fs H3.out.1.Fs (by omega) rfl HW.out (fun _ _ => rfl)).mono ?_
    rintro _ _ ⟨n3, rfl, rfl⟩
    go_wp2
    go_ret
    exact ⟨rfl, below_drewN' H3.out.2.2 _⟩
  · go_enter Try.func4, Try.ntmps4
    go_wp2
    go_ret
    exact ⟨rfl, Below.refl _ _⟩
end Go.Proofs.Ytidnhbengmjpkaa
