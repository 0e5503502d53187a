/- What OverlapOf gives on both sides. -/
import Derived.Test.YtkdojogjalkddaaDo
namespace Go.Proofs.Ytkdojogjalkddaa
set_option maxRecDepth 100000
set_option linter.unusedVariables false
open Go.RowKit

/-! whether all numbers are finite; a number that must be finite -/
set_option maxHeartbeats 1000000 in
theorem spec_l02Finite (a : Option Addr) (cap : Nat) (xs : List Nat) (w : World) (hs : Fs w a xs) (hl : xs.length ≤ 1048577) :
    Calls Try.prog 44 #[.slice a xs.length cap] w (RetV (.bool (allFin xs)) w) := by
  have HS := Lib.hid hs
  clear hs
  go_enter Try.func44, Try.ntmps44
  go_wp2
  go_loopw [3] (fun i wr => ∃ k nq : Nat, k ≤ xs.length ∧ i = .int .i64 k ∧ Hid ((xs.take k).all (fun x => isFin (cn .f32 x)) = true) ∧ wr = w.drewN nq) (fun i _ => xs.length - (intOf i).toNat)
  case atStart => exact ⟨0, 0, Nat.zero_le _, rfl, rfl, rfl⟩
  case round =>
    obtain ⟨k, nq, hk, rfl, ha, rfl⟩ := hrel
    by_cases hlt : k < xs.length
    · obtain ⟨b, off, rfl, hb, hc⟩ := HS.out.at hlt
      have hcell := hc k hlt
      clear hc
      obtain ⟨v, hv⟩ : ∃ v, v = xs.getD k 0 := ⟨_, rfl⟩
      rw [← hv] at hcell
      have V := Lib.hid hv
      clear hv
      cases hp : isFin (cn .f32 v) with
      | true =>
        have P := Lib.hid hp
        clear hp
        go_wp2_with (go_at_call 32; refine (spec_l01Finite _ _).mono ?_; rw [P.out]; rintro _ _ ⟨nd, rfl, rfl⟩)
        go_roundw
        case rel => exact ⟨k + 1, _, by omega, by go_num, by show _ = true; rw [all_snoc _ _ _ hlt, ha.out, ← V.out, P.out]; rfl, rfl⟩
        case measure => simp [intOf]; omega
      | false =>
        have P := Lib.hid hp
        clear hp
        go_wp2_with (go_at_call 32; refine (spec_l01Finite _ _).mono ?_; rw [P.out]; rintro _ _ ⟨nd, rfl, rfl⟩)
        go_ret
        refine RetV.mk ?_
        rw [allFin, all_bad (fun x => isFin (cn .f32 x)) xs k hlt (by rw [← V.out]; exact P.out)]
        rfl
    · have hall := Lib.hid (show xs.take k = xs from List.take_of_length_le (by omega))
      go_wp2
      go_ret
      refine RetV.mk ?_
      have := ha.out
      rw [hall.out] at this
      rw [allFin, this]
      rfl

def numC (c : Option Nat) : Option Nat := if isFin c then c else some 0
/-! the overlap -/
def ovB (xs ys : List Nat) : Bool := decide (1 ≤ xs.length ∧ xs.length ≤ 48 ∧ ys.length = xs.length) && (allFin xs && allFin ys)
def ovF (xs ys : List Nat) : Bool := ovB xs ys && isFin (dotK xs ys xs.length)
def ovR (xs ys : List Nat) : Option Nat := if ovF xs ys then dotK xs ys xs.length else some 0
theorem ovR_bad {xs ys : List Nat} (h : ovF xs ys = false) : ovR xs ys = some 0 := by unfold ovR; rw [h]; rfl
theorem ovF_good {xs ys : List Nat} (h : ovB xs ys = true) : ovF xs ys = isFin (dotK xs ys xs.length) := by unfold ovF; rw [h]; rfl
theorem ovR_good {xs ys : List Nat} (h : ovB xs ys = true) : ovR xs ys = numC (dotK xs ys xs.length) := by unfold ovR numC; rw [ovF_good h]

end Go.Proofs.Ytkdojogjalkddaa
