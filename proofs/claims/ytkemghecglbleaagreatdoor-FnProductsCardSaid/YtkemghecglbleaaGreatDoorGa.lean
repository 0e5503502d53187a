/- Hexadecimal digits, plainly: no program in sight. -/
import Derived.Lib.Split
namespace Go.Proofs.YtkemghecglbleaaGreatDoor
set_option linter.unusedVariables false

/-- the lower hexadecimal digit of a number below 16 -/
def hexD (d : Nat) : UInt8 := if d < 10 then UInt8.ofNat (48 + d) else UInt8.ofNat (87 + d)
theorem hexD_toNat {d : Nat} (h : d < 16) : (hexD d).toNat = if d < 10 then 48 + d else 87 + d := by
  unfold hexD
  split
  · rw [UInt8.toNat_ofNat']; omega
  · rw [UInt8.toNat_ofNat']; omega
/-- the digits of a number, as few as it takes -/
def hexL (n : Nat) : List UInt8 := if h : n < 16 then [hexD n] else hexL (n / 16) ++ [hexD (n % 16)]
termination_by n
decreasing_by omega
theorem hexL_small {n : Nat} (h : n < 16) : hexL n = [hexD n] := by rw [hexL, dif_pos h]
theorem hexL_big {n : Nat} (h : ¬ n < 16) : hexL n = hexL (n / 16) ++ [hexD (n % 16)] := by rw [hexL, dif_neg h]
theorem hexL_pos (n : Nat) : 1 ≤ (hexL n).length := by
  by_cases h : n < 16
  · rw [hexL_small h]; simp
  · rw [hexL_big h]; simp
/-- k digits of a number -/
def hexK : Nat → Nat → List UInt8
  | 0, _ => []
  | k + 1, n => hexK k (n / 16) ++ [hexD (n % 16)]
theorem hexK_len : ∀ k n : Nat, (hexK k n).length = k
  | 0, _ => rfl
  | k + 1, n => by rw [hexK, List.length_append, hexK_len k]; rfl
theorem hexK_zero : ∀ k : Nat, hexK k 0 = List.replicate k 48
  | 0 => rfl
  | k + 1 => by rw [hexK, Nat.zero_div, hexK_zero k, List.replicate_succ']; rfl
theorem hexL_len : ∀ (k n : Nat), 1 ≤ k → n < 16 ^ k → (hexL n).length ≤ k
  | 0, n, h, _ => by omega
  | k + 1, n, _, hn => by
    by_cases h : n < 16
    · rw [hexL_small h]; simp
    · have hk : 1 ≤ k := by
        rcases Nat.eq_zero_or_pos k with rfl | h0
        · exact absurd (by simpa using hn) h
        · exact h0
      rw [hexL_big h, List.length_append]
      have := hexL_len k (n / 16) hk (by rw [Nat.pow_succ] at hn; omega)
      simp; omega
theorem hexL_pad : ∀ (k n : Nat), 1 ≤ k → n < 16 ^ k → List.replicate (k - (hexL n).length) 48 ++ hexL n = hexK k n
  | 0, n, h, _ => by omega
  | k + 1, n, _, hn => by
    by_cases h : n < 16
    · rw [hexL_small h, hexK, Nat.div_eq_of_lt h, Nat.mod_eq_of_lt h, hexK_zero]; simp
    · have hk : 1 ≤ k := by
        rcases Nat.eq_zero_or_pos k with rfl | h0
        · exact absurd (by simpa using hn) h
        · exact h0
      have ih := hexL_pad k (n / 16) hk (by rw [Nat.pow_succ] at hn; omega)
      rw [hexL_big h, hexK, ← ih, List.length_append, List.length_singleton, Nat.add_sub_add_right, List.append_assoc]

/-- the value of a lower hexadecimal digit -/
def sdg (c : UInt8) : Option Nat := if 48 ≤ c.toNat ∧ c.toNat ≤ 57 then some (c.toNat - 48) else if 97 ≤ c.toNat ∧ c.toNat ≤ 102 then some (c.toNat - 87) else none
/-- of a digit of either kind -/
def hdg (c : UInt8) : Option Nat := if 48 ≤ c.toNat ∧ c.toNat ≤ 57 then some (c.toNat - 48) else if 97 ≤ c.toNat ∧ c.toNat ≤ 102 then some (c.toNat - 87) else if 65 ≤ c.toNat ∧ c.toNat ≤ 70 then some (c.toNat - 55) else none
theorem sdg_hdg {c : UInt8} {d : Nat} (h : sdg c = some d) : hdg c = some d := by
  unfold sdg at h
  unfold hdg
  split at h
  · rw [if_pos (by assumption)]; exact h
  · rw [if_neg (by assumption)]
    split at h
    · rw [if_pos (by assumption)]; exact h
    · cases h
theorem sdg_hexD {d : Nat} (h : d < 16) : sdg (hexD d) = some d := by
  unfold sdg
  rw [hexD_toNat h]
  split
  · rw [if_pos (by omega)]; congr 1; omega
  · rw [if_neg (by omega), if_pos (by omega)]; congr 1; omega
theorem sdg_lt {c : UInt8} {d : Nat} (h : sdg c = some d) : d < 16 ∧ hexD d = c := by
  unfold sdg at h
  split at h
  · injection h with h
    have hd : d < 16 := by omega
    refine ⟨hd, UInt8.toNat_inj.1 ?_⟩
    rw [hexD_toNat hd]; split <;> omega
  · split at h
    · injection h with h
      have hd : d < 16 := by omega
      refine ⟨hd, UInt8.toNat_inj.1 ?_⟩
      rw [hexD_toNat hd]; split <;> omega
    · cases h
theorem hdg_lt {c : UInt8} {d : Nat} (h : hdg c = some d) : d < 16 := by
  unfold hdg at h
  split at h
  · injection h with h; omega
  · split at h
    · injection h with h; omega
    · split at h
      · injection h with h; omega
      · cases h
/-- the number that lower digits spell -/
def foldS (n : Nat) : List UInt8 → Option Nat
  | [] => some n
  | c :: l => (sdg c).bind fun d => foldS (16 * n + d) l
theorem foldS_app : ∀ (l : List UInt8) (n : Nat) (c : UInt8), foldS n (l ++ [c]) = (foldS n l).bind fun m => (sdg c).map fun d => 16 * m + d
  | [], n, c => by simp only [List.nil_append, foldS, Option.bind_some]; cases sdg c <;> rfl
  | a :: l, n, c => by
    simp only [List.cons_append, foldS]
    cases sdg a with
    | none => rfl
    | some d => exact foldS_app l _ c
theorem foldS_hexK : ∀ (k m : Nat), foldS 0 (hexK k m) = some (m % 16 ^ k)
  | 0, m => by simp [hexK, foldS, Nat.mod_one]
  | k + 1, m => by
    rw [hexK, foldS_app, foldS_hexK k, sdg_hexD (Nat.mod_lt _ (by omega))]
    simp only [Option.bind_some, Option.map_some]
    congr 1
    rw [Nat.pow_succ, Nat.mul_comm (16 ^ k) 16, Nat.mod_mul]
    omega
theorem foldS_is : ∀ (k : Nat) (l : List UInt8) (n : Nat), l.length = k → foldS 0 l = some n → hexK k n = l ∧ n < 16 ^ k
  | 0, l, n, hl, h => by
    have : l = [] := List.eq_nil_of_length_eq_zero hl
    subst this
    simp only [foldS, Option.some.injEq] at h
    subst h
    exact ⟨rfl, by simp⟩
  | k + 1, l, n, hl, h => by
    obtain ⟨l', c, rfl⟩ : ∃ l' c, l = l' ++ [c] := by
      have hne : l ≠ [] := by intro q; rw [q] at hl; simp at hl
      exact ⟨l.dropLast, l.getLast hne, (List.dropLast_concat_getLast hne).symm⟩
    rw [foldS_app] at h
    obtain ⟨m, hm, h2⟩ := Option.bind_eq_some_iff.1 h
    obtain ⟨d, hd, rfl⟩ := Option.map_eq_some_iff.1 h2
    obtain ⟨h3, h4⟩ := foldS_is k l' m (by simpa using hl) hm
    obtain ⟨h5, h6⟩ := sdg_lt hd
    rw [hexK, show (16 * m + d) / 16 = m by omega, show (16 * m + d) % 16 = d by omega, h3, h6]
    exact ⟨rfl, by rw [Nat.pow_succ]; omega⟩
/-- what the library reads: digits of either kind, below 2^32 -/
def pu (n : Nat) : List UInt8 → Option Nat
  | [] => some n
  | c :: l => (hdg c).bind fun d => if 16 * n + d < 4294967296 then pu (16 * n + d) l else none
theorem pu_lt : ∀ (l : List UInt8) (n m : Nat), n < 4294967296 → pu n l = some m → m < 4294967296
  | [], n, m, hn, h => by simp only [pu, Option.some.injEq] at h; omega
  | c :: l, n, m, hn, h => by
    simp only [pu] at h
    obtain ⟨d, hd, h2⟩ := Option.bind_eq_some_iff.1 h
    split at h2
    · exact pu_lt l _ m (by assumption) h2
    · cases h2
theorem foldS_mono : ∀ (l : List UInt8) (n m : Nat), foldS n l = some m → n ≤ m
  | [], n, m, h => by simp only [foldS, Option.some.injEq] at h; omega
  | c :: l, n, m, h => by
    simp only [foldS] at h
    obtain ⟨d, hd, h2⟩ := Option.bind_eq_some_iff.1 h
    have := foldS_mono l _ m h2
    omega
theorem pu_of : ∀ (l : List UInt8) (n m : Nat), foldS n l = some m → m < 4294967296 → pu n l = some m
  | [], n, m, h, _ => h
  | c :: l, n, m, h, hm => by
    simp only [foldS] at h
    obtain ⟨d, hd, h2⟩ := Option.bind_eq_some_iff.1 h
    have := foldS_mono l _ m h2
    simp only [pu, sdg_hdg hd, Option.bind_some]
    rw [if_pos (by omega)]
    exact pu_of l _ m h2 hm

/-- one not-a-number alone is read back -/
def canon (n : Nat) : Nat := if 2139095040 < n % 2147483648 then 2143289344 else n
theorem canon_idem (n : Nat) : canon (canon n) = canon n := by
  unfold canon
  split <;> simp_all
theorem canon_lt {n : Nat} (h : n < 4294967296) : canon n < 4294967296 := by unfold canon; split <;> omega
/-- the number with 8 digits, as the reference reads it -/
def digS (l : List UInt8) : Option Nat := if l.length = 8 then (foldS 0 l).bind fun n => if canon n = n then some n else none else none
/-- as the program reads it -/
def digI (l : List UInt8) : Option Nat := if l = [] then none else (pu 0 l).bind fun n => if hexK 8 (canon n) = l then some n else none
theorem dig_eq (l : List UInt8) : digS l = digI l := by
  unfold digS digI
  by_cases h8 : l.length = 8
  · have hne : ¬ l = [] := by intro q; rw [q] at h8; simp at h8
    rw [if_pos h8, if_neg hne]
    cases hf : foldS 0 l with
    | none =>
      simp only [Option.bind_none]
      cases hp : pu 0 l with
      | none => rfl
      | some n =>
        simp only [Option.bind_some]
        rw [if_neg]
        intro q
        rw [← q, foldS_hexK] at hf
        cases hf
    | some n =>
      obtain ⟨h1, h2⟩ := foldS_is 8 l n h8 hf
      rw [pu_of l 0 n hf (by omega)]
      simp only [Option.bind_some]
      by_cases hc : canon n = n
      · rw [if_pos hc, if_pos (by rw [hc]; exact h1)]
      · rw [if_neg hc, if_neg]
        intro q
        apply hc
        have e1 := foldS_hexK 8 (canon n)
        rw [q, hf, Nat.mod_eq_of_lt (canon_lt (by omega))] at e1
        injection e1 with e1
        exact e1.symm
  · rw [if_neg h8]
    by_cases hne : l = []
    · rw [if_pos hne]
    · rw [if_neg hne]
      cases hp : pu 0 l with
      | none => rfl
      | some n =>
        simp only [Option.bind_some]
        rw [if_neg]
        intro q
        exact h8 (by rw [← q, hexK_len])
end Go.Proofs.YtkemghecglbleaaGreatDoor
