/- What SumNumbers gives on both sides. -/
import Derived.Test.YticeapacffgikaaGreatDoorTs
namespace Go.Proofs.YticeapacffgikaaGreatDoor
set_option maxRecDepth 100000
open Go.RowKit

/-! sums -/
def sumC (xs : List Nat) : Option Nat := xs.foldl (fun a x => cop .add .f32 a (cn .f32 x)) (some 0)
theorem sumC_snoc (xs : List Nat) (k : Nat) (h : k < xs.length) : sumC (xs.take (k + 1)) = cop .add .f32 (sumC (xs.take k)) (cn .f32 (xs.getD k 0)) := by
  unfold sumC
  rw [take_snocN xs k h, List.foldl_append]; rfl

set_option maxHeartbeats 1000000 in
theorem impl_sum (a : Option Addr) (cap : Nat) (xs : List Nat) (w : World) (hs : Fs w a xs) (hl : xs.length ≤ 1048577) :
    Calls Tryz.prog 30 #[.slice a xs.length cap] w (RetF .f32 (sumC xs) w) := by
  have HS := Lib.hid hs
  clear hs
  go_enter Tryz.func30, Tryz.ntmps30
  go_wp2
  go_loopw [3, 5, 8] (fun s v i wr => ∃ k r nq : Nat, k ≤ xs.length ∧ i = .int .i64 k ∧ s = .float .f32 r ∧ Hid (FE .f32 r (sumC (xs.take k))) ∧ wr = w.drewN nq) (fun _ _ i _ => xs.length - (intOf i).toNat)
  case atStart => exact ⟨0, 0, 0, by omega, rfl, rfl, ⟨cn_zero32, by decide⟩, rfl⟩
  case round =>
    obtain ⟨k, r0, nq, hk, rfl, rfl, hR, rfl⟩ := hrel
    by_cases hlt : k < xs.length
    · obtain ⟨b1, off1, rfl, _, hc1⟩ := HS.out.at hlt
      have h1 := hc1 k hlt
      clear hc1
      obtain ⟨x, hx⟩ : ∃ x, x = xs.getD k 0 := ⟨_, rfl⟩
      rw [← hx] at h1
      have X := Lib.hid hx
      clear hx
      go_wp2_with (((first | with_reducible refine up_add _ _ _ _ _ ?_ | with_reducible refine up_sub _ _ _ _ _ ?_ | with_reducible refine up_mul _ _ _ _ _ ?_ | with_reducible refine up_quo _ _ _ _ _ ?_)); intro r nd hr)
      go_roundw
      case rel =>
        refine ⟨k + 1, _, _, by omega, by go_num, rfl, hr.cast ?_, rfl⟩
        rw [sumC_snoc xs k hlt, ← X.out, hR.out.out]
      case measure => simp [intOf]; omega
    · have hT := Lib.hid (show xs.take k = xs from List.take_of_length_le (by omega))
      go_wp2
      go_ret
      refine RetF.mk ?_
      have h := hR.out
      rw [hT.out] at h
      exact h

def sumR (xs : List Nat) : Option Nat := if xs.length ≤ 256 then sumC xs else some 0

set_option maxHeartbeats 1000000 in
theorem impl_SumNumbers (a : Option Addr) (cap : Nat) (xs : List Nat) (w : World) (hs : Fs w a xs) (hl : xs.length ≤ 1048577) :
    Calls Tryz.prog 11 #[.slice a xs.length cap] w (RetFB .f32 (sumR xs) (decide (xs.length ≤ 256)) w) := by
  have HS := Lib.hid hs
  clear hs
  by_cases h : xs.length ≤ 256
  · have hd := Lib.hid (decide_eq_true h)
    have hR := Lib.hid (show sumR xs = sumC xs by unfold sumR; rw [if_pos h])
    go_enter Tryz.func11, Tryz.ntmps11
    go_wp2_with (go_at_call 30; refine (impl_sum a cap xs _ HS.out hl).mono ?_; rintro _ _ ⟨r, nd, rfl, hr, rfl⟩)
    go_ret2
    exact RetFB.mk (hr.cast hR.out.symm) hd.out.symm
  · have hd := Lib.hid (decide_eq_false h)
    have hR := Lib.hid (show sumR xs = some 0 by unfold sumR; rw [if_neg h])
    go_enter Tryz.func11, Tryz.ntmps11
    go_wp2
    go_ret2
    exact RetFB.mk0 ⟨cn_zero32.trans hR.out.symm, by decide⟩ hd.out.symm

end Go.Proofs.YticeapacffgikaaGreatDoor
