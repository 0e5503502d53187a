/- Decimals and texts cut at commas, plainly: no program in sight. -/
import Derived.Lib.ParseIntB
import Derived.Lib.ItoaMem
import Derived.Lib.Split
import Derived.Lib.Join
namespace Go.Proofs.YtecimbcioajonaaDoor
set_option linter.unusedVariables false
open Go.Lib

theorem digit_toNat {d : Nat} (h : d < 10) : (UInt8.ofNat (48 + d)).toNat = 48 + d := by
  rw [UInt8.toNat_ofNat']; omega
/-- what digits spell, other bytes left out -/
def dv : Nat → List UInt8 → Nat
  | a, [] => a
  | a, c :: r => if 48 ≤ c.toNat ∧ c.toNat ≤ 57 then dv (10 * a + (c.toNat - 48)) r else dv a r
theorem dec_parts (u : Nat) (rest : List UInt8) : (u < 10 ∧ decDigits u ++ rest = UInt8.ofNat (48 + u) :: rest) ∨ (¬ u < 10 ∧ decDigits u ++ rest = decDigits (u / 10) ++ (UInt8.ofNat (48 + u % 10) :: rest)) := by
  by_cases h : u < 10
  · left; refine ⟨h, ?_⟩; rw [decDigits, dif_pos h]; rfl
  · right; refine ⟨h, ?_⟩
    conv => lhs; rw [decDigits, dif_neg h]
    rw [List.append_assoc]; rfl
theorem dv_dec (u : Nat) : ∀ rest, dv 0 (decDigits u ++ rest) = dv u rest := by
  induction u using Nat.strongRecOn with
  | ind u ih =>
    intro rest
    rcases dec_parts u rest with ⟨h, e⟩ | ⟨h, e⟩
    · rw [e, dv, digit_toNat h, if_pos (by omega)]
      congr 1; omega
    · rw [e, ih (u / 10) (by omega), dv, digit_toNat (by omega), if_pos (by omega)]
      congr 1; omega
theorem parse_dec (u : Nat) : ∀ rest, u ≤ 18446744073709551615 → parseUintM 18446744073709551615 0 (decDigits u ++ rest) = parseUintM 18446744073709551615 u rest := by
  induction u using Nat.strongRecOn with
  | ind u ih =>
    intro rest hu
    rcases dec_parts u rest with ⟨h, e⟩ | ⟨h, e⟩
    · rw [e, parseUintM, digit_toNat h, if_pos (by omega), if_neg (by omega), if_neg (by omega)]
      congr 1; omega
    · rw [e, ih (u / 10) (by omega) _ (by omega), parseUintM, digit_toNat (by omega), if_pos (by omega), if_neg (by omega), if_neg (by omega)]
      congr 1; omega
theorem dec_len (u : Nat) : ∀ k, u < 10 ^ (k + 1) → (decDigits u).length ≤ k + 1 := by
  induction u using Nat.strongRecOn with
  | ind u ih =>
    intro k hk
    rcases dec_parts u [] with ⟨h, e⟩ | ⟨h, e⟩
    · rw [List.append_nil] at e; rw [e]; simp
    · rw [List.append_nil] at e
      cases k with
      | zero => simp at hk; omega
      | succ k =>
        have := ih (u / 10) (by omega) k (by rw [Nat.pow_succ] at hk; omega)
        rw [e, List.length_append]; simp; omega
theorem dec_head (u : Nat) : ∃ c r, decDigits u = c :: r ∧ 48 ≤ c.toNat ∧ c.toNat ≤ 57 := by
  induction u using Nat.strongRecOn with
  | ind u ih =>
    rcases dec_parts u [] with ⟨h, e⟩ | ⟨h, e⟩
    · rw [List.append_nil] at e; exact ⟨_, _, e, by rw [digit_toNat h]; omega, by rw [digit_toNat h]; omega⟩
    · rw [List.append_nil] at e
      obtain ⟨c, r, e2, h1, h2⟩ := ih (u / 10) (by omega)
      exact ⟨c, r ++ [UInt8.ofNat (48 + u % 10)], by rw [e, e2]; rfl, h1, h2⟩

theorem parse_itoa {n : Int} (h1 : -1000000000000000 ≤ n) (h2 : n ≤ 1000000000000000) : parseIntB 64 (itoa n) = .ok n := by
  by_cases h : n < 0
  · obtain ⟨c, r, e, _, _⟩ := dec_head n.natAbs
    have hp : parseUintB 64 (decDigits n.natAbs) = .ok n.natAbs := by
      unfold parseUintB
      rw [if_neg (by rw [e]; simp)]
      have := parse_dec n.natAbs [] (by omega)
      rw [List.append_nil] at this
      exact this
    unfold itoa
    rw [if_pos h]
    unfold parseIntB
    simp only [show (45 : UInt8).toNat = 45 from rfl, or_true, if_true, hp]
    rw [if_neg (by simp), if_neg (by omega), show -(n.natAbs : Int) = n by omega]
  · obtain ⟨c, r, e, hc1, hc2⟩ := dec_head n.toNat
    have hp : parseUintB 64 (decDigits n.toNat) = .ok n.toNat := by
      unfold parseUintB
      rw [if_neg (by rw [e]; simp)]
      have := parse_dec n.toNat [] (by omega)
      rw [List.append_nil] at this
      exact this
    unfold itoa
    rw [if_neg h, e]
    unfold parseIntB
    rw [e] at hp
    have k1 : ¬ c.toNat = 43 := by omega
    have k2 : ¬ c.toNat = 45 := by omega
    simp only [k1, k2, or_self, if_false, hp]
    rw [if_neg (by omega), if_neg (by simp), show (n.toNat : Int) = n by omega]

/-- the value of a decimal: a number whose numeral the text is -/
def valD (s : ByteArray) : Option Int :=
  match parseIntB 64 s.data.toList with
  | .ok v => if -1000000000000000 ≤ v ∧ v ≤ 1000000000000000 ∧ itoa v = s.data.toList then some v else none
  | _ => none
theorem valD_iff {s : ByteArray} {n : Int} : valD s = some n ↔ -1000000000000000 ≤ n ∧ n ≤ 1000000000000000 ∧ itoa n = s.data.toList := by
  constructor
  · intro h
    unfold valD at h
    split at h
    · split at h
      · rename_i q; injection h with h; subst h; exact q
      · cases h
    · cases h
  · rintro ⟨h1, h2, h3⟩
    unfold valD
    rw [← h3, parse_itoa h1 h2]
    simp [h1, h2]
theorem itoa_len {n : Int} (h1 : -1000000000000000 ≤ n) (h2 : n ≤ 1000000000000000) : 1 ≤ (itoa n).length ∧ (itoa n).length ≤ 17 := by
  unfold itoa
  split
  · have := dec_len n.natAbs 15 (by have : (10 : Nat) ^ (15 + 1) = 10000000000000000 := by decide
                                    omega)
    simp; omega
  · have := dec_len n.toNat 15 (by have : (10 : Nat) ^ (15 + 1) = 10000000000000000 := by decide
                                   omega)
    obtain ⟨c, r, e, _, _⟩ := dec_head n.toNat
    refine ⟨by rw [e]; simp, by omega⟩
/-- the number that the reference reads: what the digits spell, with the sign of the first byte -/
def rdN (l : List UInt8) : Int := if l.head?.map (·.toNat) = some 45 then -(dv 0 l : Int) else (dv 0 l : Int)
theorem rdN_itoa (n : Int) : rdN (itoa n) = n := by
  unfold rdN itoa
  by_cases h : n < 0
  · rw [if_pos h]
    have e : dv 0 (45 :: decDigits n.natAbs) = n.natAbs := by
      have := dv_dec n.natAbs []
      rw [List.append_nil] at this
      rw [dv, if_neg (by decide), this]; rfl
    rw [e, if_pos (by rfl)]
    omega
  · rw [if_neg h]
    obtain ⟨c, r, e, hc1, hc2⟩ := dec_head n.toNat
    have e2 : dv 0 (decDigits n.toNat) = n.toNat := by
      have := dv_dec n.toNat []
      rw [List.append_nil] at this
      exact this
    rw [e2, e, if_neg (by simp; omega)]
    omega
theorem valD_none {s : ByteArray} (h : valD s = none) (h1 : -1000000000000000 ≤ rdN s.data.toList) (h2 : rdN s.data.toList ≤ 1000000000000000) : itoa (rdN s.data.toList) ≠ s.data.toList := fun e => by
  have := valD_iff.2 ⟨h1, h2, e⟩
  rw [h] at this
  cases this
theorem valD_some {s : ByteArray} {n : Int} (h : valD s = some n) : rdN s.data.toList = n ∧ 1 ≤ s.size ∧ s.size ≤ 17 ∧ -1000000000000000 ≤ n ∧ n ≤ 1000000000000000 ∧ itoa n = s.data.toList := by
  obtain ⟨h1, h2, h3⟩ := valD_iff.1 h
  have := itoa_len h1 h2
  have e : s.size = s.data.toList.length := by rw [Array.length_toList]; rfl
  exact ⟨by rw [← h3]; exact rdN_itoa n, by rw [e, ← h3]; omega, by rw [e, ← h3]; omega, h1, h2, h3⟩
theorem dv_lt (l : List UInt8) : ∀ a, dv a l < (a + 1) * 10 ^ l.length := by
  induction l with
  | nil => intro a; simp [dv]
  | cons c r ih =>
    intro a
    rw [dv, List.length_cons, Nat.pow_succ]
    split
    · have := ih (10 * a + (c.toNat - 48))
      have h9 : 10 * a + (c.toNat - 48) + 1 ≤ (a + 1) * 10 := by omega
      calc dv (10 * a + (c.toNat - 48)) r < (10 * a + (c.toNat - 48) + 1) * 10 ^ r.length := this
        _ ≤ ((a + 1) * 10) * 10 ^ r.length := Nat.mul_le_mul_right _ h9
        _ = (a + 1) * (10 ^ r.length * 10) := by rw [Nat.mul_assoc, Nat.mul_comm 10]
    · have := ih a
      calc dv a r < (a + 1) * 10 ^ r.length := this
        _ ≤ (a + 1) * (10 ^ r.length * 10) := Nat.mul_le_mul_left _ (by omega)
theorem dv_snoc (l : List UInt8) (c : UInt8) : ∀ a, dv a (l ++ [c]) = if 48 ≤ c.toNat ∧ c.toNat ≤ 57 then 10 * dv a l + (c.toNat - 48) else dv a l := by
  induction l with
  | nil => intro a; simp [dv]
  | cons b r ih =>
    intro a
    rw [List.cons_append, dv, dv]
    split <;> exact ih _

/-! texts cut at a mark -/
def cutF (m : UInt8) : List UInt8 → List UInt8 → List (List UInt8)
  | pre, [] => [pre]
  | pre, c :: r => if c = m then pre :: cutF m [] r else cutF m (pre ++ [c]) r
def ofL (l : List UInt8) : ByteArray := ⟨l.toArray⟩
theorem ofL_data (l : List UInt8) : (ofL l).data.toList = l := rfl
theorem ofL_of (s : ByteArray) : ofL s.data.toList = s := rfl
end Go.Proofs.YtecimbcioajonaaDoor
