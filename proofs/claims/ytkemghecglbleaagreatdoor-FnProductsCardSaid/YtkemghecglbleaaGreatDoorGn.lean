/- ReadNumbers on the reference's side. -/
import Derived.Test.YtkemghecglbleaaGreatDoorGr
namespace Go.Proofs.YtkemghecglbleaaGreatDoor
set_option maxRecDepth 100000
set_option linter.unusedVariables false
open Go.Lib Go.RowKit Go.Sort
def sdgP (c : Nat) (o : Option Nat) : Prop := (48 ≤ c ∧ c ≤ 57 ∧ o = some (c - 48)) ∨ (97 ≤ c ∧ c ≤ 102 ∧ o = some (c - 87)) ∨ (c < 48 ∧ o = none) ∨ (58 ≤ c ∧ c ≤ 96 ∧ o = none) ∨ (103 ≤ c ∧ o = none)
theorem sdg_cases (b : UInt8) : sdgP b.toNat (sdg b) := by
  unfold sdgP sdg
  by_cases h1 : 48 ≤ b.toNat ∧ b.toNat ≤ 57
  · rw [if_pos h1]; exact .inl ⟨h1.1, h1.2, rfl⟩
  · rw [if_neg h1]
    by_cases h2 : 97 ≤ b.toNat ∧ b.toNat ≤ 102
    · rw [if_pos h2]; exact .inr (.inl ⟨h2.1, h2.2, rfl⟩)
    · rw [if_neg h2]
      by_cases h3 : b.toNat < 48
      · exact .inr (.inr (.inl ⟨h3, rfl⟩))
      · by_cases h4 : b.toNat ≤ 96
        · exact .inr (.inr (.inr (.inl ⟨by omega, h4, rfl⟩)))
        · exact .inr (.inr (.inr (.inr ⟨by omega, rfl⟩)))
/-- digits read so far -/
def FoldAt (l : List UInt8) (k m : Nat) : Prop := foldS 0 l = foldS m (l.drop k) ∧ m < 16 ^ k
theorem FoldAt.zero (l : List UInt8) : FoldAt l 0 0 := ⟨rfl, by decide⟩
theorem FoldAt.next {p : ByteArray} {k m d : Nat} (h : FoldAt p.data.toList k m) (hk : k < p.size) (hd : sdg p[k] = some d) : FoldAt p.data.toList (k + 1) (16 * m + d) := by
  have hl : k < p.data.toList.length := by rw [size_len]; exact hk
  have e : p.data.toList.drop k = p[k] :: p.data.toList.drop (k + 1) := List.drop_eq_getElem_cons hl
  obtain ⟨h1, h2⟩ := h
  refine ⟨by rw [h1, e, foldS, hd]; rfl, ?_⟩
  have := (sdg_lt hd).1
  rw [Nat.pow_succ]; omega
theorem FoldAt.no {p : ByteArray} {k m : Nat} (h : FoldAt p.data.toList k m) (hk : k < p.size) (hd : sdg p[k] = none) : digS p.data.toList = none := by
  have hl : k < p.data.toList.length := by rw [size_len]; exact hk
  have e : p.data.toList.drop k = p[k] :: p.data.toList.drop (k + 1) := List.drop_eq_getElem_cons hl
  unfold digS
  split
  · rw [h.1, e, foldS, hd]; rfl
  · rfl
theorem FoldAt.full {p : ByteArray} {m : Nat} (h : FoldAt p.data.toList 8 m) (hp : p.size = 8) : m < 4294967296 ∧ digS p.data.toList = if canon m = m then some m else none := by
  refine ⟨by have := h.2; omega, ?_⟩
  unfold digS
  rw [if_pos (by rw [size_len]; exact hp), h.1, List.drop_of_length_le (by rw [size_len]; omega)]
  rfl
theorem FoldAt.lt {l : List UInt8} {k m : Nat} (h : FoldAt l k m) (hk : k < 8) : m < 268435456 := by
  refine Nat.lt_of_lt_of_le h.2 ?_
  exact Nat.pow_le_pow_right (n := 16) (by omega) (show k ≤ 7 by omega)
theorem digS_short {p : ByteArray} (h : ¬ p.size = 8) : digS p.data.toList = none := by
  unfold digS
  rw [if_neg (by rw [size_len]; exact h)]
/-- texts that lie in a block which is not this one -/
def Sx (w : World) (a : Option Addr) (ws : List ByteArray) (ob : Option Nat) : Prop := ws = [] ∨ ∃ b, a = some ⟨b, 0, none⟩ ∧ b < w.heap.size ∧ some b ≠ ob ∧ ∀ j x, ws[j]? = some x → w.cell? ⟨b, j, none⟩ = some (.string x)
theorem Sx.at {w : World} {a : Option Addr} {ws : List ByteArray} {ob : Option Nat} (h : Sx w a ws ob) {k : Nat} (hk : k < ws.length) : ∃ b, a = some ⟨b, 0, none⟩ ∧ w.cell? ⟨b, k, none⟩ = some (.string ws[k]) := by
  rcases h with h | ⟨b, rfl, h1, _, h2⟩
  · rw [h] at hk; cases hk
  · exact ⟨b, rfl, h2 k _ (List.getElem?_eq_getElem hk)⟩
theorem Sx.below {w w' : World} {a : Option Addr} {ws : List ByteArray} {ob : Option Nat} (h : Sx w a ws ob) (hb : Below w.heap.size w w') : Sx w' a ws ob := by
  rcases h with h | ⟨b, rfl, h1, h3, h2⟩
  · exact .inl h
  · exact .inr ⟨b, rfl, Nat.lt_of_lt_of_le h1 hb.size, h3, fun j x hx => (hb.cell (p := ⟨b, j, none⟩) h1).trans (h2 j x hx)⟩
theorem Sx.grown {w w' : World} {a : Option Addr} {ws : List ByteArray} {ob ob' : Option Nat} (h : Sx w a ws ob) (hg : w.grownBy w' ob) (ho : ob' = ob ∨ ob' = some w.heap.size) : Sx w' a ws ob' := by
  rcases h with h | ⟨b, rfl, h1, h3, h2⟩
  · exact .inl h
  · refine .inr ⟨b, rfl, Nat.lt_of_lt_of_le h1 hg.size, ?_, fun j x hx => (World.cell?_of_block (a := ⟨b, j, none⟩) (hg.block b h1 h3)).trans (h2 j x hx)⟩
    rcases ho with rfl | rfl
    · exact h3
    · intro q; injection q with q; omega
theorem Ows.sx {w : World} {base : Nat} {v : Value} {ws : List ByteArray} (h : Ows w base v ws) {g : Nat} (hg : g < base) : ∃ a cap, v = .slice a ws.length cap ∧ Sx w a ws (some g) := by
  rcases h.2 with ⟨rfl, h0⟩ | ⟨g2, c, cur, rfl, h1, h2, h3, h4, h5, h6⟩
  · have : ws = [] := List.eq_nil_of_length_eq_zero h0
    subst this
    exact ⟨none, 0, rfl, .inl rfl⟩
  · refine ⟨_, _, rfl, .inr ⟨g2, rfl, (Array.getElem?_eq_some_iff.1 h2).1, by intro q; injection q with q; omega, fun j x hx => ?_⟩⟩
    have hj := (List.getElem?_eq_some_iff.1 hx).1
    simp only [World.cell?, h2]
    have e : cur[j]? = (ws.map Value.string)[j]? := by
      rw [← h6, List.getElem?_take_of_lt (by omega)]
      simp
    simp [e, hx]
theorem run_pushN (w : World) (base : Nat) (v : Value) (xs : List Nat) (x : Nat) (h : Ow w base v xs) (hb : base ≤ w.heap.size) (hl : xs.length ≤ 1048576) (ty : TypeId) {a : Option Addr} {ws : List ByteArray} (hx : Sx w a ws v.ownBlock) :
    ∃ v' w', (Builtin.append_ #[90, 90] ty #[v, .slice (some ⟨w.heap.size, 0, none⟩) 1 1]).run Tryz.prog (w.alloc (.cells #[.float .f32 x] 28)) = .ok v' w' ∧ Ow w' base v' (xs ++ [x]) ∧ Below base w w' ∧ Sx w' a ws v'.ownBlock := by
  have h' : Ow (w.alloc (.cells #[.float .f32 x] 28)) base v xs := h.belowR ((Below.refl _ _).alloc (Nat.le_refl _) _)
  obtain ⟨i, hi, hz0, hz1, hz2⟩ := info_parts (P := Tryz.prog) (e := 28) (z := .float .f32 0) (size := 1) (bytes := 4) (by kernel_rfl)
  obtain ⟨v', w', hr, h2, h3, _, h5⟩ := run_append_own_at (P := Tryz.prog) (w.alloc (.cells #[.float .f32 x] 28)) base 90 ty 28 i (.float .f32 0) 1 4 Tryz.underlying90 hi hz0 hz1 hz2 rfl (by omega) v xs.length (xs.map (Value.float .f32)) h' ⟨w.heap.size, 0, none⟩ 1 1 [.float .f32 x] rfl
    (fun j u hj => by
      cases j with
      | zero => simp at hj; subst hj; simp [Addr.add]
      | succ j => simp at hj) (fun u hu => by simp at hu; subst hu; rfl) (by unfold maxLen; omega) (by omega) (by simp; omega)
  refine ⟨v', w', hr, ?_, ((Below.refl base w).alloc hb _).grown h3 (by simp; omega) (fun k hk => ?_), (hx.below ((Below.refl _ _).alloc (Nat.le_refl _) _)).grown h3 h5⟩
  · unfold Ow
    rw [List.length_append, List.map_append]
    exact h2
  · rcases h.2 with ⟨rfl, _⟩ | ⟨g, c, cur, rfl, h1, _⟩
    · cases hk
    · have : g = k := by injection hk
      omega
theorem bits_neq {n m : Nat} (h : ¬ n = m) : (((n : Int) != (m : Int)) = true) := by
  rw [bne_iff_ne]; omega
end Go.Proofs.YtkemghecglbleaaGreatDoor
