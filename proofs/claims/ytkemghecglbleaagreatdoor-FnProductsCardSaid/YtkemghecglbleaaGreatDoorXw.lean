/- The program's exponential; numbers chosen by bytes; gaps. -/
import Derived.Test.YtkemghecglbleaaGreatDoorXe
import Derived.Test.YtkemghecglbleaaGreatDoorSl
namespace Go.Proofs.YtkemghecglbleaaGreatDoor
set_option maxRecDepth 100000
set_option linter.unusedVariables false
open Go.RowKit

theorem x_tab : ∀ j : Fin 12, (FloatKind.f64.format.order (fi (12 - (j.val : Int))) 4607182418800017408 == some .gt || FloatKind.f64.format.order (fi (12 - (j.val : Int))) 4607182418800017408 == some .eq) = true ∧
    cop .sub .f64 (some (fi (12 - (j.val : Int)))) (some 4607182418800017408) = some (fi (12 - ((j.val + 1 : Nat) : Int))) ∧ cn .f64 (fi (12 - (j.val : Int))) = some (fi (12 - (j.val : Int))) ∧
    kLeft (.float .f64 (fi (12 - ((j.val + 1 : Nat) : Int)))) < kLeft (.float .f64 (fi (12 - (j.val : Int)))) := by decide +kernel
theorem x_end : (FloatKind.f64.format.order (fi (12 - ((12 : Nat) : Int))) 4607182418800017408 == some .gt || FloatKind.f64.format.order (fi (12 - ((12 : Nat) : Int))) 4607182418800017408 == some .eq) = false := by decide +kernel
theorem x_k (j kk : Nat) (hj : j < 12) (hk : kk = fi (12 - (j : Int))) : (FloatKind.f64.format.order kk 4607182418800017408 == some .gt || FloatKind.f64.format.order kk 4607182418800017408 == some .eq) = true ∧
    cop .sub .f64 (some kk) (some 4607182418800017408) = some (fi (12 - ((j + 1 : Nat) : Int))) ∧ cn .f64 kk = some kk ∧ kLeft (.float .f64 (fi (12 - ((j + 1 : Nat) : Int)))) < kLeft (.float .f64 kk) := by
  subst hk
  exact x_tab ⟨j, hj⟩
theorem fi_12 : fi 12 = 4622945017495814144 := by decide
theorem c256 : cn .f64 4643211215818981376 = some 4643211215818981376 := by decide

/-- the contract of a call whose float is known -/
theorem RetF.num {k : FloatKind} {v : Nat} {w : World} {e : Ending} {w' : World} (h : RetF k (some v) w e w') : RetV (.float k v) w e w' := by
  obtain ⟨r, n, rfl, hr, rfl⟩ := h
  have := cn_some hr.out
  exact ⟨n, by rw [this], rfl⟩
theorem cn_conv {s d : FloatKind} {x y : Nat} (h : isConv s d x y = true) : cn s x = some x := by
  unfold isConv at h
  unfold cn
  cases hx : s.decode x with
  | nan g t => rw [hx] at h; cases h
  | infinity g => rw [hx] at h; cases h
  | number g m e => simp [Ieee.Datum.isNaN]

theorem eighthsN : ∀ k : Fin 129, cn .f64 (eighthW k.val) = some (eighthW k.val) := by decide +kernel
/-! numbers chosen by bytes -/
def Bs (w : World) (a : Option Addr) (n : Nat) : Prop := ∀ j : Nat, j < n → ∃ (ad : Addr) (v : Int), a = some ad ∧ 0 ≤ v ∧ v < 256 ∧ w.cell? (ad.add j) = some (.int .u8 v)
theorem Bs.drewN {w : World} {a : Option Addr} {n : Nat} (h : Bs w a n) (m : Nat) : Bs (w.drewN m) a n := h
theorem laws_b10Long (a b : Option Addr) (la ca lb cb : Nat) (w : World) : Calls Tryz.prog 4 #[.slice a la ca, .slice b lb cb] w (RetV (.bool (decide (1048576 < (la : Int)) || decide (1048576 < (lb : Int)))) w) := by
  by_cases h : 1048576 < (la : Int)
  · go_enter Tryz.func4, Tryz.ntmps4
    go_wp2
    go_ret
    exact RetV.mk0 (by simp [h])
  · go_enter Tryz.func4, Tryz.ntmps4
    go_wp2
    go_ret
    exact RetV.mk0 (by rw [show decide (1048576 < (la : Int)) = false from decide_eq_false (by omega)]; rfl)
theorem laws_b10At (a : Option Addr) (la ca : Nat) (i n : Int) (hi : 0 ≤ i ∧ i ≤ 10) (hn : 2 ≤ n ∧ n ≤ 1000) (w : World) (hB : Bs w a la) :
    Calls Tryz.prog 15 #[.slice a la ca, .int .i64 i, .int .i64 n] w (fun e w' => ∃ r : Nat, (r : Int) < n ∧ RetV (.int .i64 r) w e w') := by
  have n1 : ¬ (n ≤ 1) := by omega
  have n0 : ¬ (n = 0) := by omega
  have nm : ¬ (n = -1) := by omega
  by_cases h : i < (la : Int)
  · obtain ⟨ad, v, rfl, v0, v1, hc⟩ := hB i.toNat (by omega)
    have i0 := hi.1
    clear hB
    go_enter Tryz.func15, Tryz.ntmps15
    go_wp2
    go_ret
    refine ⟨(v % n).toNat, ?_, RetV.mk0 ?_⟩
    · have := Int.emod_lt_of_pos v (show 0 < n by omega); have := Int.emod_nonneg v (show n ≠ 0 by omega); omega
    · show Value.int .i64 (v % n) = _
      rw [Int.toNat_of_nonneg (Int.emod_nonneg v (by omega))]
  · clear hB
    go_enter Tryz.func15, Tryz.ntmps15
    go_wp2
    go_ret
    refine ⟨((i * 37 + 11) % n).toNat, ?_, RetV.mk0 ?_⟩
    · have := Int.emod_lt_of_pos (i * 37 + 11) (show 0 < n by omega); have := Int.emod_nonneg (i * 37 + 11) (show n ≠ 0 by omega); omega
    · show Value.int .i64 ((i * 37 + 11) % n) = _
      rw [Int.toNat_of_nonneg (Int.emod_nonneg _ (by omega))]

/-! gaps -/
def GapIs (a b g : Nat) : Prop := (FloatKind.f64.format.order a b == some .lt) = true ∧ cop .sub .f64 (some b) (some a) = some g ∨ (FloatKind.f64.format.order a b == some .lt) = false ∧ cop .sub .f64 (some a) (some b) = some g
theorem gapB_is {a b : Nat} {f : Nat → Bool} (h : gapB a b f = true) : ∃ g, GapIs a b g ∧ f g = true := by
  unfold gapB at h
  cases hl : ltB .f64 a b with
  | true =>
    rw [hl] at h
    obtain ⟨g, h1, h2⟩ := forceO_is h
    exact ⟨g, .inl ⟨hl, h1⟩, h2⟩
  | false =>
    rw [hl] at h
    obtain ⟨g, h1, h2⟩ := forceO_is h
    exact ⟨g, .inr ⟨hl, h1⟩, h2⟩
end Go.Proofs.YtkemghecglbleaaGreatDoor
