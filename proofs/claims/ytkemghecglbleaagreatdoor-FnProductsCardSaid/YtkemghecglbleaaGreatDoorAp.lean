/- Slices of a function's own that grow by 'append'; marks laid into a result. -/
import Derived.Test.YtkemghecglbleaaGreatDoorCb
import Derived.Laws.AppendOwn
import Derived.OwnWalk
namespace Go.Proofs.YtkemghecglbleaaGreatDoor
set_option maxRecDepth 100000
open Go.RowKit

/-- a slice of the call's own, in a block from 'base' on (or nil), that holds these numbers -/
def Ow (w : World) (base : Nat) (v : Value) (xs : List Nat) : Prop := w.ownsRow base 28 1 v xs.length (xs.map (Value.float .f32))

theorem Ow.Fs {w : World} {base : Nat} {v : Value} {xs : List Nat} (h : Ow w base v xs) : ∃ a cap, v = .slice a xs.length cap ∧ Fs w a xs ∧ (xs ≠ [] → ∃ g, a = some ⟨g, 0, none⟩ ∧ base ≤ g) := by
  obtain ⟨h1, ⟨rfl, h3⟩ | ⟨g, cap, cur, rfl, hb, hh, hn, hc, hs, ht⟩⟩ := h
  · have : xs = [] := List.eq_nil_of_length_eq_zero h3
    subst this
    exact ⟨none, 0, rfl, .inl rfl, fun q => absurd rfl q⟩
  · refine ⟨_, _, rfl, ?_, fun _ => ⟨g, rfl, hb⟩⟩
    refine .inr ⟨g, 0, rfl, (Array.getElem?_eq_some_iff.1 hh).1, fun j hj => ?_⟩
    rw [Nat.zero_add]
    simp only [World.cell?, hh]
    have e : cur[j]? = (xs.map (Value.float .f32))[j]? := by
      rw [← ht, List.getElem?_take_of_lt (by omega)]
      simp
    simp [e, hj]

theorem run_app32 (w : World) (base : Nat) (v : Value) (xs : List Nat) (x g : Nat) (h : Ow w base v xs) (hg : w.cell? ⟨g, 0, none⟩ = some (.float .f32 x)) (hbase : base ≤ w.heap.size) (hl : xs.length ≤ 1048576) (ty : TypeId) :
    ∃ v' w', (Builtin.append_ #[90, 90] ty #[v, .slice (some ⟨g, 0, none⟩) 1 1]).run Tryz.prog w = .ok v' w' ∧ Ow w' base v' (xs ++ [x]) ∧ w.grownBy w' v.ownBlock := by
  obtain ⟨i, hi, hz0, hz1, hz2⟩ := info_parts (P := Tryz.prog) (e := 28) (z := .float .f32 0) (size := 1) (bytes := 4) (by kernel_rfl)
  obtain ⟨v', w', hr, h2, h3, _⟩ := run_append_own (P := Tryz.prog) w base 90 ty 28 i (.float .f32 0) 1 4 Tryz.underlying90 hi hz0 hz1 hz2 rfl (by omega) v xs.length (xs.map (Value.float .f32)) h ⟨g, 0, none⟩ 1 1 [.float .f32 x] rfl
    (fun j u hj => by
      have : j = 0 := by
        have := (List.getElem?_eq_some_iff.1 hj).1
        simp at this; omega
      subst this
      simp at hj
      subst hj
      exact hg)
    (fun u hu => by simp at hu; subst hu; rfl) (by unfold maxLen; omega) (by omega) hbase
  refine ⟨v', w', hr, ?_, h3⟩
  unfold Ow
  rw [List.length_append, List.map_append]
  exact h2

theorem Ow.length {w : World} {base : Nat} {a : Option Addr} {n cap : Nat} {xs : List Nat} (h : Ow w base (.slice a n cap) xs) : n = xs.length := by
  obtain ⟨h1, ⟨h2, h3⟩ | ⟨g, c, cur, h2, _⟩⟩ := h
  · cases h2; omega
  · cases h2; rfl

theorem Ow.set {w : World} {base g cap : Nat} {xs : List Nat} (h : Ow w base (.slice (some ⟨g, 0, none⟩) xs.length cap) xs) {j : Nat} (hj : j < xs.length) (x : Nat) :
    (∃ u, w.cell? ⟨g, j, none⟩ = some u) ∧ w.frozen? ⟨g, j, none⟩ = false ∧ base ≤ g ∧ Ow (w.setCell ⟨g, j, none⟩ (.float .f32 x)) base (.slice (some ⟨g, 0, none⟩) xs.length cap) (xs.set j x) := by
  obtain ⟨h1, ⟨h2, h3⟩ | ⟨g', c, cur, h2, hb, hh, hn, hc, hs, ht⟩⟩ := h
  · cases h2
  · cases h2
    have hjc : j < cur.size := by omega
    refine ⟨⟨cur[j], by simp [World.cell?, hh, hjc]⟩, by simp [World.frozen?, hh], hb, ?_⟩
    unfold Ow
    rw [List.length_set]
    refine ⟨by simp, .inr ⟨g, cap, cur.setIfInBounds j (.float .f32 x), rfl, hb, ?_, hn, hc, by simpa using hs, ?_⟩⟩
    · rw [setCell_eq_setRow w g j _ _ (0, 0) _ hh, setRow_heap w g _ _ _ (0, 0) hh]
    · rw [List.map_set, ← ht]
      simp [List.take_set]

/-- the marks that the statements lay -/
def marks (k : Int) (n : Nat) : List Nat := (List.range n).map fun (j : Nat) => floatOfInt .f32 (k + (j : Int))
theorem cn_int32 (k : Int) : cn .f32 (floatOfInt .f32 k) = some (floatOfInt .f32 k) := by
  have h := write_not_nan FloatKind.f32.format (d := .number (k < 0) k.natAbs 0) rfl
  unfold cn
  rw [if_neg]
  have : FloatKind.f32.decode (floatOfInt .f32 k) = FloatKind.f32.format.read (FloatKind.f32.format.write (.number (k < 0) k.natAbs 0)) := rfl
  rw [this, h]
  exact Bool.false_ne_true

theorem marks_get (k : Int) (n j : Nat) (hj : j < n) : (marks k n).getD j 0 = floatOfInt .f32 (k + (j : Int)) := by
  unfold marks
  simp [hj]
theorem marks_len (k : Int) (n : Nat) : (marks k n).length = n := by unfold marks; simp

end Go.Proofs.YtkemghecglbleaaGreatDoor
