/- Texts cut and read back, plainly; numbers that are the same. -/
import Derived.Test.YtkemghecglbleaaGreatDoorSd
import Derived.Test.YtkemghecglbleaaGreatDoorGq
import Derived.Test.YtkemghecglbleaaGreatDoorYa
namespace Go.Proofs.YtkemghecglbleaaGreatDoor
set_option maxRecDepth 100000
set_option linter.unusedVariables false
open Go.Lib Go.RowKit
/-! texts cut and read back, plainly -/
theorem cutF_skip (m : UInt8) : ∀ (l pre rest : List UInt8), m ∉ l → cutF m pre (l ++ rest) = cutF m (pre ++ l) rest
  | [], pre, rest, _ => by simp
  | c :: l, pre, rest, h => by
    have hc : ¬ c = m := fun q => h (by rw [q]; exact List.mem_cons_self ..)
    have hl : m ∉ l := fun q => h (List.mem_cons_of_mem _ q)
    rw [List.cons_append, cutF, if_neg hc, cutF_skip m l _ rest hl]
    simp
theorem cut_join : ∀ (ls : List (List UInt8)), ls ≠ [] → (∀ l ∈ ls, (44 : UInt8) ∉ l) → cutF 44 [] (Lib.join ls [44]) = ls
  | [], h, _ => absurd rfl h
  | [a], _, h => by
    have h1 := h a (by simp)
    have e : Lib.join [a] [44] = a ++ [] := by simp [Lib.join]
    rw [e, cutF_skip 44 a [] [] h1]
    simp [cutF]
  | a :: b :: r, _, h => by
    have h1 := h a (by simp)
    rw [join_cons2, cutF_skip 44 a [] _ h1, cutF, if_pos rfl, cut_join (b :: r) (by simp) (fun l hl => h l (List.mem_cons_of_mem _ hl))]
    simp
theorem hexD_ne {d : Nat} (h : d < 16) : hexD d ≠ 44 ∧ hexD d ≠ 110 := by
  have e := hexD_toNat h
  constructor
  · intro q
    rw [q] at e
    have : (44 : UInt8).toNat = 44 := rfl
    split at e <;> omega
  · intro q
    rw [q] at e
    have : (110 : UInt8).toNat = 110 := rfl
    split at e <;> omega
theorem hexK_mem : ∀ (k n : Nat) (c : UInt8), c ∈ hexK k n → c ≠ 44 ∧ c ≠ 110
  | 0, n, c, h => by cases h
  | k + 1, n, c, h => by
    rw [hexK] at h
    rcases List.mem_append.1 h with q | q
    · exact hexK_mem k _ c q
    · rw [List.mem_singleton.1 q]; exact hexD_ne (Nat.mod_lt _ (by omega))
theorem canon_bits (x : Nat) (hx : x < 4294967296) : bitsC (cn .f32 x) < 4294967296 ∧ canon (bitsC (cn .f32 x)) = bitsC (cn .f32 x) ∧ cn .f32 (bitsC (cn .f32 x)) = cn .f32 x := by
  rw [bitsC_canon hx]
  refine ⟨canon_lt hx, canon_idem x, ?_⟩
  rw [← bitsC_canon hx]
  rcases cn_cases .f32 x with c | c
  · rw [c]; decide
  · rw [c]; exact c
theorem digS_hex (n : Nat) (h : n < 4294967296) (hc : canon n = n) : digS (hexK 8 n) = some n := by
  unfold digS
  rw [if_pos (hexK_len 8 n), foldS_hexK, Nat.mod_eq_of_lt (by omega)]
  simp [hc]
theorem narrow_back (x : Nat) (hx : x < 4294967296) : Fits .f64 .f32 (cconv .f32 .f64 (cn .f32 x)) ∧ cconv .f64 .f32 (cconv .f32 .f64 (cn .f32 x)) = cn .f32 x := by
  rcases cn_cases .f32 x with c | c
  · rw [c]; exact ⟨trivial, rfl⟩
  · rw [c]
    obtain ⟨h1, h2⟩ := down_up x hx c
    exact ⟨h2, h1⟩
theorem Bs.later {w w' : World} {a : Option Addr} {n : Nat} (h : Bs w a n) (hb : Below w.heap.size w w') : Bs w' a n := fun j hj => by
  obtain ⟨ad, v, h1, h2, h3, h4⟩ := h j hj
  exact ⟨ad, v, h1, h2, h3, (hb.cell (World.block_lt_of_cell? w _ h4)).trans h4⟩
/-- comparing numbers that are the same, but for which not-a-number they are -/
theorem same_true (a b : Nat) (ha : a < 4294967296) (hb : b < 4294967296) (h : cn .f32 a = cn .f32 b) (w : World) : Calls Tryz.prog 9 #[.float .f32 a, .float .f32 b] w (RetV (.bool true) w) := by
  have := spec_SameNumber a b ha hb w
  rwa [decide_eq_true h] at this
end Go.Proofs.YtkemghecglbleaaGreatDoor
