/- How an argument that is a slice of 32-bit numbers is read. -/
import Derived.Test.YtbadlhakedppiaaDoorFr
import Derived.Test.YtbadlhakedppiaaDoorSl
import Derived.Deep.Slices
import Derived.ChangeSlices
namespace Go.Proofs.YtbadlhakedppiaaDoor
set_option maxRecDepth 100000
open Go.Deep Go.ChangeShapes Go.WideShapes Go.ChangeAt Go.RowKit

theorem trod_flt {H : Type} {enc : TypeId × Value → H} {P : Program} {w : World} {base : Nat} {spare : Nat → Bool} {held : Bool} {k : FloatKind} {e : TypeId} {n : Nat} {v : Value} {y : DataW H × List MemPlace} (he : P.underlying e = some (.float k))
    (h : DataW.trod enc P w base spare held n e [v] = some y) : ∃ b, v = .float k b ∧ (Lit.float k b).wf = true := by
  cases n with
  | zero => simp [DataW.trod] at h
  | succ n =>
    simp only [DataW.trod, he] at h
    cases v <;> simp at h
    rename_i k2 b
    by_cases hk : k2 = k
    · subst hk
      by_cases hw : (Lit.float k2 b).wf = true
      · exact ⟨b, rfl, hw⟩
      · simp [hw] at h
    · simp [hk] at h

def floatOf : Option Value → Nat | some (.float _ b) => b | _ => 0
theorem open_f32s {H : Type} {enc : TypeId × Value → H} {W : World} {spare : Nat → Bool} {held : Bool} {a : Option Addr} {len cap : Nat} {d : DataW H} {ps : List MemPlace}
    (h : DataW.Trod enc Tryd.prog W 0 spare held 22 (.slice a len cap) d ps) :
    ∃ zs : List Nat, zs.length = len ∧ Fs W a zs ∧ (∀ j, j < zs.length → zs.getD j 0 < 4294967296) ∧ len ≤ maxLen := by
  obtain ⟨fuel, hf⟩ := h
  rcases open_slice1 Tryd.underlying22 (by kernel_rfl) hf with ⟨hcs, _⟩ | ⟨x, l, c, m, n, V, D, Pl, hcs, _, hl, hm, hmm, _, hx⟩
  · simp [Value.cells] at hcs
    obtain ⟨rfl, rfl, rfl⟩ := hcs
    exact ⟨[], rfl, .inl rfl, fun j hj => absurd hj (by simp), by simp⟩
  · simp [Value.cells] at hcs
    obtain ⟨rfl, rfl, rfl⟩ := hcs
    have hlm : len ≤ m := by rw [hmm]; split <;> omega
    have hV : ∀ i, i < len → ∃ b, W.cell? (x.add i) = some (.float .f32 b) ∧ (Lit.float .f32 b).wf = true := by
      intro i hi
      obtain ⟨h1, h2⟩ := hx i (by omega)
      obtain ⟨b, hb, hw⟩ := trod_flt Tryd.underlying38 h2
      exact ⟨b, by rw [h1, hb], hw⟩
    refine ⟨(List.range len).map fun i => floatOf (W.cell? (x.add i)), by simp, ?_, ?_, by omega⟩
    · rcases Nat.eq_zero_or_pos len with h0 | h0
      · left; subst h0; rfl
      · right
        obtain ⟨b0, c0, _⟩ := hV 0 h0
        obtain ⟨xb, xo, sp⟩ := x
        have hsp : sp = none := by
          cases sp with
          | none => rfl
          | some q =>
            have e0 : (⟨xb, xo, some q⟩ : Addr).add 0 = ⟨xb, xo, some q⟩ := rfl
            rw [e0] at c0
            unfold World.cell? at c0
            split at c0
            · simp at c0
            · cases c0
        subst hsp
        have hadd : ∀ i, (⟨xb, xo, none⟩ : Addr).add i = ⟨xb, xo + i, none⟩ := by
          intro i
          unfold Addr.add
          split
          · rename_i h; subst h; rfl
          · rfl
        refine ⟨xb, xo, rfl, ?_, ?_⟩
        · have e0 : (⟨xb, xo, none⟩ : Addr).add 0 = ⟨xb, xo, none⟩ := rfl
          rw [e0] at c0
          unfold World.cell? at c0
          cases hh : W.heap[xb]? with
          | none => rw [hh] at c0; cases c0
          | some o => exact (Array.getElem?_eq_some_iff.1 hh).1
        · intro j hj
          have hj : j < len := by simpa using hj
          obtain ⟨b, h1, h2⟩ := hV j hj
          rw [hadd] at h1
          rw [h1]
          simp [hj, hadd, h1, floatOf]
    · intro j hj
      have hj : j < len := by simpa using hj
      obtain ⟨b, h1, h2⟩ := hV j hj
      simp [hj, h1, floatOf]
      exact wf32 h2
end Go.Proofs.YtbadlhakedppiaaDoor
