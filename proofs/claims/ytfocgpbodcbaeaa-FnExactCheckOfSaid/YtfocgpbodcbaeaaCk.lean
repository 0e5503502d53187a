/- What CheckOf gives on both sides. -/
import Derived.Test.YtfocgpbodcbaeaaWc
import Derived.Lib.Hide
namespace Go.Proofs.Ytfocgpbodcbaeaa
set_option maxRecDepth 100000
open Go.RowKit

/-- the check number behind some bytes -/
def ck (n : Int) (l : List UInt8) : Int := l.foldl (fun n c => (977 * n + (c.toNat : Int) + 233) % 65003) n
theorem ck_bd (n : Int) (h0 : 0 ≤ n) (h1 : n < 65003) (l : List UInt8) : 0 ≤ ck n l ∧ ck n l < 65003 := by
  unfold ck
  induction l generalizing n with
  | nil => exact ⟨h0, h1⟩
  | cons c l ih => exact ih _ (by show 0 ≤ _ % _; omega) (by show _ % _ < _; omega)
/-- what CheckOf gives -/
def ckR (n : Int) (l : List UInt8) : Int := if 0 ≤ n ∧ n ≤ 65002 then ck n l else 0
def ckB (n : Int) : Bool := decide (0 ≤ n ∧ n ≤ 65002)
theorem take_snoc (s : ByteArray) (k : Nat) (h : k < s.size) : s.data.toList.take (k + 1) = s.data.toList.take k ++ [s[k]] := by
  rw [List.take_succ_eq_append_getElem (by simpa using h)]; rfl
theorem ck_snoc (n : Int) (s : ByteArray) (k : Nat) (h : k < s.size) : ck n (s.data.toList.take (k + 1)) = (977 * ck n (s.data.toList.take k) + (s[k].toNat : Int) + 233) % 65003 := by
  rw [take_snoc s k h]; unfold ck; rw [List.foldl_append]; rfl
theorem take_all (s : ByteArray) (k : Nat) (h : ¬ k < s.size) : s.data.toList.take k = s.data.toList := List.take_of_length_le (by simp; omega)
theorem byte_lt (c : UInt8) : (c.toNat : Int) < 256 := by have := c.toNat_lt; omega

set_option maxHeartbeats 1000000 in
theorem spec_l01Check (n : Int) (h0 : 0 ≤ n) (h1 : n < 65003) (s : ByteArray) (hs : s.size ≤ 1048576) (w : World) :
    Calls Try.prog 23 #[.int .i64 n, .string s] w (RetV (.int .i64 (ck n s.data.toList)) w) := by
  go_enter Try.func23, Try.ntmps23
  go_wp2
  go_loop [0, 5] (fun q i => ∃ k : Nat, k ≤ s.size ∧ i = .int .i64 k ∧ q = .int .i64 (ck n (s.data.toList.take k))) (fun _ i => s.size - (intOf i).toNat)
  case atStart => exact ⟨0, Nat.zero_le _, rfl, rfl⟩
  case round =>
    obtain ⟨k, hk, rfl, rfl⟩ := hrel
    obtain ⟨b0, b1⟩ := ck_bd n h0 h1 (s.data.toList.take k)
    by_cases hlt : k < s.size
    · have HS := Lib.hid (ck_snoc n s k hlt)
      have hb := byte_lt s[k]
      go_wp2
      go_round
      case rel => exact ⟨k + 1, by omega, by go_num, by rw [HS.out]⟩
      case measure => simp [intOf]; omega
    · have HT := Lib.hid (take_all s k hlt)
      go_wp2
      go_ret
      exact RetV.mk0 (congrArg (fun l => Value.int .i64 (ck n l)) HT.out)

set_option maxHeartbeats 1000000 in
theorem spec_CheckOf (n : Int) (s : ByteArray) (hs : s.size ≤ 1048576) (w : World) :
    Calls Try.prog 9 #[.int .i64 n, .string s] w (RetV (.tuple #[.int .i64 (ckR n s.data.toList), .bool (ckB n)]) w) := by
  by_cases h : 0 ≤ n ∧ n ≤ 65002
  · have hd : Hid (ckR n s.data.toList = ck n s.data.toList ∧ ckB n = true) := ⟨by unfold ckR; rw [if_pos h], by unfold ckB; simp [h]⟩
    obtain ⟨h0, h1⟩ := h
    have hb : (decide (0 ≤ n) && decide (n ≤ 65002)) = true := by simp [h0, h1]
    go_enter Try.func9, Try.ntmps9
    go_wp2_with (first | (go_at_call 22; refine (spec_l00In _ _ _ _).mono ?_; rintro _ _ ⟨nd, rfl, rfl⟩) | (go_at_call 23; refine (spec_l01Check _ h0 (by omega) _ hs _).mono ?_; rintro _ _ ⟨nd, rfl, rfl⟩))
    go_ret2
    refine RetV.mk ?_
    rw [hd.out.1, hd.out.2]
    rfl
  · have hd : Hid (ckR n s.data.toList = 0 ∧ ckB n = false) := ⟨by unfold ckR; rw [if_neg h], by unfold ckB; simpa using h⟩
    have hb : (decide (0 ≤ n) && decide (n ≤ 65002)) = false := by
      rw [Bool.and_eq_false_iff]; simp only [decide_eq_false_iff_not]; omega
    clear h
    go_enter Try.func9, Try.ntmps9
    go_wp2_with (go_at_call 22; refine (spec_l00In _ _ _ _).mono ?_; rintro _ _ ⟨nd, rfl, rfl⟩)
    go_ret2
    refine RetV.mk ?_
    rw [hd.out.1, hd.out.2]
    rfl

set_option maxHeartbeats 1000000 in
theorem impl_CheckOf (n : Int) (s : ByteArray) (hs : s.size ≤ 1048576) (w : World) :
    Calls Try.prog 10 #[.int .i64 n, .string s] w (RetV (.tuple #[.int .i64 (ckR n s.data.toList), .bool (ckB n)]) w) := by
  by_cases h : 0 ≤ n ∧ n ≤ 65002
  · have hd : Hid (ckR n s.data.toList = ck n s.data.toList ∧ ckB n = true) := ⟨by unfold ckR; rw [if_pos h], by unfold ckB; simp [h]⟩
    obtain ⟨h0, h1⟩ := h
    have hb : (decide (0 ≤ n) && decide (n ≤ 65002)) = true := by simp [h0, h1]
    go_enter Try.func10, Try.ntmps10
    go_wp2_with (go_at_call 24; refine (impl_within _ _ _ _).mono ?_; rintro _ _ ⟨nd, rfl, rfl⟩)
    go_loop [0, 12] (fun q i => ∃ k : Nat, k ≤ s.size ∧ i = .int .i64 k ∧ q = .int .i64 (ck n (s.data.toList.take k))) (fun _ i => s.size - (intOf i).toNat)
    case atStart => exact ⟨0, Nat.zero_le _, rfl, rfl⟩
    case round =>
      obtain ⟨k, hk, rfl, rfl⟩ := hrel
      obtain ⟨b0, b1⟩ := ck_bd n h0 (by omega) (s.data.toList.take k)
      by_cases hlt : k < s.size
      · have HS := Lib.hid (ck_snoc n s k hlt)
        have hb := byte_lt s[k]
        go_wp2
        go_round
        case rel => exact ⟨k + 1, by omega, by go_num, by rw [HS.out]⟩
        case measure => simp [intOf]; omega
      · have HT := Lib.hid (take_all s k hlt)
        go_wp2
        go_ret2
        refine RetV.mk ?_
        rw [hd.out.1, hd.out.2]
        exact congrArg (fun l => Value.tuple #[Value.int .i64 (ck n l), .bool true]) HT.out
  · have hd : Hid (ckR n s.data.toList = 0 ∧ ckB n = false) := ⟨by unfold ckR; rw [if_neg h], by unfold ckB; simpa using h⟩
    have hb : (decide (0 ≤ n) && decide (n ≤ 65002)) = false := by
      rw [Bool.and_eq_false_iff]; simp only [decide_eq_false_iff_not]; omega
    clear h
    go_enter Try.func10, Try.ntmps10
    go_wp2_with (go_at_call 24; refine (impl_within _ _ _ _).mono ?_; rintro _ _ ⟨nd, rfl, rfl⟩)
    go_ret2
    refine RetV.mk ?_
    rw [hd.out.1, hd.out.2]
    rfl

set_option maxHeartbeats 1000000 in
theorem law_CheckOf (n : Int) (s : ByteArray) (hm : s.size ≤ maxLen) (w : World) :
    Calls Try.prog 3 #[.int .i64 n, .string s] w (RetV (.bool true) w) := by
  unfold maxLen at hm
  by_cases hs : s.size ≤ 1048576
  · go_enter Try.func3, Try.ntmps3
    go_wp2_with (first | (go_at_call 9; refine (spec_CheckOf _ _ hs _).mono ?_; rintro _ _ ⟨nd, rfl, rfl⟩) | (go_at_call 10; refine (impl_CheckOf _ _ hs _).mono ?_; rintro _ _ ⟨nd, rfl, rfl⟩))
    go_ret
    exact RetV.mk rfl
  · go_enter Try.func3, Try.ntmps3
    go_wp2
    go_ret
    exact RetV.mk0 rfl
end Go.Proofs.Ytfocgpbodcbaeaa
